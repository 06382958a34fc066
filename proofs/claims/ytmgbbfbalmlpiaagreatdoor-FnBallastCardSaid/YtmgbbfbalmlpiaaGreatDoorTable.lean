/- Timetables: valid ones, as the reference and the program ask it. -/
import Derived.Test.YtmgbbfbalmlpiaaGreatDoorRides
namespace Go.Proofs.YtmgbbfbalmlpiaaGreatDoor
open Go.RowKit Go.Deep

def vRide (l t : Int) : Bool := inB l 0 1440 && inB t 1 1440 && decide (l + t ≤ 1440)
theorem vRide_out {l t : Int} (h : vRide l t = true) : 0 ≤ l ∧ l ≤ 1440 ∧ 1 ≤ t ∧ t ≤ 1440 ∧ l + t ≤ 1440 := by
  simp only [vRide, Bool.and_eq_true, inB_iff, decide_eq_true_eq] at h; omega
/-- Ride k is valid, and leaves not before the one ahead of it has ended. -/
def rideAt (lv tk : Nat → Int) (k : Nat) : Bool := vRide (lv k) (tk k) && (decide (k = 0) || decide (lv (k - 1) + tk (k - 1) ≤ lv k))
def vTable (n : Nat) (lv tk : Nat → Int) : Bool := allTo (rideAt lv tk) n && decide (n ≤ 24)
theorem vTable_out {n : Nat} {lv tk : Nat → Int} (h : vTable n lv tk = true) : n ≤ 24 ∧ ∀ i, i < n → rideAt lv tk i = true := by
  simp only [vTable, Bool.and_eq_true, decide_eq_true_eq] at h
  exact ⟨h.2, allTo_out h.1⟩
theorem rideAt_out {lv tk : Nat → Int} {k : Nat} (h : rideAt lv tk k = true) : vRide (lv k) (tk k) = true ∧ (k ≠ 0 → lv (k - 1) + tk (k - 1) ≤ lv k) := by
  simp only [rideAt, Bool.and_eq_true, Bool.or_eq_true, decide_eq_true_eq] at h
  exact ⟨h.1, fun h0 => h.2.resolve_left h0⟩
/-- What a round meets at ride k, all before it being right. -/
theorem rideAt_cases {lv tk : Nat → Int} {k : Nat} (hno : ∀ i, i < k → rideAt lv tk i = true) :
    (vRide (lv k) (tk k) = false ∧ Hid (rideAt lv tk k = false)) ∨
    (vRide (lv k) (tk k) = true ∧ k = 0 ∧ Hid (rideAt lv tk k = true)) ∨
    (vRide (lv k) (tk k) = true ∧ 0 < k ∧ vRide (lv (k - 1)) (tk (k - 1)) = true ∧ lv (k - 1) + tk (k - 1) ≤ lv k ∧ Hid (rideAt lv tk k = true)) ∨
    (vRide (lv k) (tk k) = true ∧ 0 < k ∧ vRide (lv (k - 1)) (tk (k - 1)) = true ∧ lv k < lv (k - 1) + tk (k - 1) ∧ Hid (rideAt lv tk k = false)) := by
  cases hv : vRide (lv k) (tk k)
  · exact .inl ⟨rfl, by show rideAt lv tk k = false; unfold rideAt; rw [hv]; rfl⟩
  · by_cases h0 : k = 0
    · exact .inr (.inl ⟨rfl, h0, by show rideAt lv tk k = true; unfold rideAt; rw [hv, h0]; rfl⟩)
    · have hp := (rideAt_out (hno (k - 1) (by omega))).1
      by_cases h : lv (k - 1) + tk (k - 1) ≤ lv k
      · exact .inr (.inr (.inl ⟨rfl, by omega, hp, h, by show rideAt lv tk k = true; unfold rideAt; rw [hv]; simp [h]⟩))
      · exact .inr (.inr (.inr ⟨rfl, by omega, hp, by omega, by show rideAt lv tk k = false; unfold rideAt; rw [hv]; simp [h0]; omega⟩))
theorem vTable_no {n k : Nat} {lv tk : Nat → Int} (hk : k < n) (h : rideAt lv tk k = false) : vTable n lv tk = false := by
  unfold vTable; rw [allTo_no hk h]; rfl
theorem vTable_end {n : Nat} {lv tk : Nat → Int} (h : ∀ i, i < n → rideAt lv tk i = true) : vTable n lv tk = decide (n ≤ 24) := by
  unfold vTable; rw [allTo_yes h]; rfl
attribute [irreducible] vTable rideAt vRide

theorem vRide_cases (l t : Int) : (inB l 0 1440 = false ∧ Hid (vRide l t = false)) ∨ (inB l 0 1440 = true ∧ inB t 1 1440 = false ∧ Hid (vRide l t = false)) ∨
    (inB l 0 1440 = true ∧ inB t 1 1440 = true ∧ (0 ≤ l ∧ l ≤ 1440 ∧ 1 ≤ t ∧ t ≤ 1440) ∧ Hid (vRide l t = decide (l + t ≤ 1440))) := by
  have key : vRide l t = (inB l 0 1440 && inB t 1 1440 && decide (l + t ≤ 1440)) := by unfold vRide; rfl
  cases h1 : inB l 0 1440
  · exact .inl ⟨rfl, by rw [h1] at key; exact key⟩
  · cases h2 : inB t 1 1440
    · exact .inr (.inl ⟨rfl, rfl, by rw [h1, h2] at key; exact key⟩)
    · have := inB_out h1; have := inB_out h2
      exact .inr (.inr ⟨rfl, rfl, by omega, by rw [h1, h2] at key; show vRide l t = _; simpa using key⟩)

end Go.Proofs.YtmgbbfbalmlpiaaGreatDoor
