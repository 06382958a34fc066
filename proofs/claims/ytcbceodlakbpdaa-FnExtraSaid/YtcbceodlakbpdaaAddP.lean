/- An extra ride put to its place: the plain laws. No program. -/
import Derived.Test.YtcbceodlakbpdaaFree
namespace Go.Proofs.Ytcbceodlakbpdaa
open Go.RowKit Go.Deep

/-- The place of a ride that leaves at l: the first ride behind it. -/
def insK (n : Nat) (lv : Nat → Int) (l : Int) : Nat := firstTo (fun i => decide (l < lv i)) n
def insF (k : Nat) (x : Int) (f : Nat → Int) : Nat → Int := fun i => if i < k then f i else if i = k then x else f (i - 1)
theorem insK_eq {n k : Nat} {lv : Nat → Int} {l : Int} (hk : k ≤ n) (hb : ∀ i, i < k → lv i ≤ l) (ha : k < n → l < lv k) : insK n lv l = k :=
  firstTo_eq hk (fun i hi => by have := hb i hi; simp; omega) (fun h => by simpa using ha h)
theorem insK_le (n : Nat) (lv : Nat → Int) (l : Int) : insK n lv l ≤ n := firstTo_le _ _
theorem idx_insK (n : Nat) (lv : Nat → Int) (l : Int) : (insK n lv l < n ∧ idxTo (fun i => decide (l < lv i)) n = insK n lv l) ∨ (insK n lv l = n ∧ idxTo (fun i => decide (l < lv i)) n = -1) := by
  unfold idxTo
  have := insK_le n lv l
  by_cases h : insK n lv l < n
  · exact .inl ⟨h, by unfold insK at *; rw [if_pos h]⟩
  · exact .inr ⟨by omega, by unfold insK at *; rw [if_neg h]⟩
theorem table_mono {n : Nat} {lv tk : Nat → Int} (h : vTable n lv tk = true) : ∀ i j, i ≤ j → j < n → lv i ≤ lv j := by
  have hs : ∀ j, j + 1 < n → lv j ≤ lv (j + 1) := fun j hj => by
    obtain ⟨h1, h2⟩ := rideAt_out ((vTable_out h).2 (j + 1) hj)
    have h3 := vRide_out (rideAt_out ((vTable_out h).2 j (by omega))).1
    have h4 := h2 (by omega)
    rw [show j + 1 - 1 = j by omega] at h4
    omega
  intro i j hij
  induction j with
  | zero => intro _; rw [show i = 0 by omega]; exact Int.le_refl _
  | succ j ih =>
    intro hj
    by_cases e : i = j + 1
    · rw [e]; exact Int.le_refl _
    · exact Int.le_trans (ih (by omega) (by omega)) (hs j hj)

def addC (n : Nat) (lv tk : Nat → Int) (l t u : Int) : Int := if vTable n lv tk && vRide l t then (if inB u 0 1440 then (if hasT n lv tk l t u then (if n = 24 then 5 else 0) else 6) else 2) else 1
def addN (n : Nat) (lv tk : Nat → Int) (l t u : Int) : Nat := if addC n lv tk l t u = 0 then n + 1 else 0
theorem table_bds {n : Nat} {lv tk : Nat → Int} (h : vTable n lv tk = true) : Bds n lv tk := fun i hi => by
  have h2 := vRide_out (rideAt_out ((vTable_out h).2 i hi)).1
  omega
theorem add_cases (n : Nat) (lv tk : Nat → Int) (l t u : Int) :
    (vTable n lv tk = false ∧ Hid (addC n lv tk l t u = 1 ∧ addN n lv tk l t u = 0)) ∨
    (vTable n lv tk = true ∧ vRide l t = false ∧ Hid (addC n lv tk l t u = 1 ∧ addN n lv tk l t u = 0)) ∨
    (vTable n lv tk = true ∧ vRide l t = true ∧ inB u 0 1440 = false ∧ Hid (addC n lv tk l t u = 2 ∧ addN n lv tk l t u = 0)) ∨
    (vTable n lv tk = true ∧ vRide l t = true ∧ inB u 0 1440 = true ∧ (0 ≤ l ∧ l ≤ 1440 ∧ 1 ≤ t ∧ t ≤ 1440 ∧ 0 ≤ u ∧ u ≤ 1440) ∧ hasT n lv tk l t u = false ∧ Hid (addC n lv tk l t u = 6 ∧ addN n lv tk l t u = 0)) ∨
    (vTable n lv tk = true ∧ vRide l t = true ∧ inB u 0 1440 = true ∧ (0 ≤ l ∧ l ≤ 1440 ∧ 1 ≤ t ∧ t ≤ 1440 ∧ 0 ≤ u ∧ u ≤ 1440) ∧ hasT n lv tk l t u = true ∧ (23 < n ∧ n ≤ 24) ∧ Hid (addC n lv tk l t u = 5 ∧ addN n lv tk l t u = 0)) ∨
    (vTable n lv tk = true ∧ vRide l t = true ∧ inB u 0 1440 = true ∧ (0 ≤ l ∧ l ≤ 1440 ∧ 1 ≤ t ∧ t ≤ 1440 ∧ 0 ≤ u ∧ u ≤ 1440) ∧ hasT n lv tk l t u = true ∧ n < 24 ∧ Hid (addC n lv tk l t u = 0 ∧ addN n lv tk l t u = n + 1)) := by
  have key : ∀ c, addC n lv tk l t u = c → c ≠ 0 → addC n lv tk l t u = c ∧ addN n lv tk l t u = 0 := fun c h h0 => ⟨h, by unfold addN; rw [h, if_neg h0]⟩
  cases h1 : vTable n lv tk
  · exact .inl ⟨rfl, key 1 (by unfold addC; rw [h1]; rfl) (by decide)⟩
  · cases h2 : vRide l t
    · exact .inr (.inl ⟨rfl, rfl, key 1 (by unfold addC; rw [h1, h2]; rfl) (by decide)⟩)
    · cases h3 : inB u 0 1440
      · exact .inr (.inr (.inl ⟨rfl, rfl, rfl, key 2 (by unfold addC; rw [h1, h2, h3]; rfl) (by decide)⟩))
      · have hb1 := vRide_out h2
        have hb2 := inB_out h3
        cases h4 : hasT n lv tk l t u
        · exact .inr (.inr (.inr (.inl ⟨rfl, rfl, rfl, by omega, rfl, key 6 (by unfold addC; rw [h1, h2, h3, h4]; rfl) (by decide)⟩)))
        · have hn := (vTable_out h1).1
          by_cases h5 : n = 24
          · exact .inr (.inr (.inr (.inr (.inl ⟨rfl, rfl, rfl, by omega, rfl, by omega, key 5 (by unfold addC; rw [h1, h2, h3, h4]; simp [h5]) (by decide)⟩))))
          · have h0 : addC n lv tk l t u = 0 := by unfold addC; rw [h1, h2, h3, h4]; simp [h5]
            exact .inr (.inr (.inr (.inr (.inr ⟨rfl, rfl, rfl, by omega, rfl, by omega, h0, by unfold addN; rw [h0]; rfl⟩))))
attribute [irreducible] addC addN insK

/-- The cells of a row of rides with one more. -/
theorem ins_low {k : Nat} {l t : Int} {lv tk : Nat → Int} {i : Nat} (h : i < k * 2) : rc (insF k l lv) (insF k t tk) i = rc lv tk i := by
  have : i / 2 < k := by omega
  simp [rc, insF, this]
theorem ins_at0 (k : Nat) (l t : Int) (lv tk : Nat → Int) : rc (insF k l lv) (insF k t tk) (k * 2) = .int .i64 l := by
  rw [rc0]; simp [insF]
theorem ins_at1 (k : Nat) (l t : Int) (lv tk : Nat → Int) : rc (insF k l lv) (insF k t tk) (k * 2 + 1) = .int .i64 t := by
  rw [rc1]; simp [insF]
theorem ins_high {k : Nat} {l t : Int} {lv tk : Nat → Int} (i : Nat) : rc (insF k l lv) (insF k t tk) (k * 2 + 2 + i) = rc lv tk (k * 2 + i) := by
  have h1 : ¬ (k * 2 + 2 + i) / 2 < k := by omega
  have h2 : ¬ (k * 2 + 2 + i) / 2 = k := by omega
  have h3 : (k * 2 + 2 + i) / 2 - 1 = (k * 2 + i) / 2 := by omega
  have h4 : (k * 2 + 2 + i) % 2 = (k * 2 + i) % 2 := by omega
  simp only [rc, insF, h1, h2, h3, h4, if_false]

end Go.Proofs.Ytcbceodlakbpdaa
