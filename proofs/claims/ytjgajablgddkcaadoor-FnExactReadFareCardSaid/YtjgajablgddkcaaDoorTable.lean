/- Timetables: valid ones, as the reference and the program ask it. -/
import Derived.Test.YtjgajablgddkcaaDoorRides
namespace Go.Proofs.YtjgajablgddkcaaDoor
open Go.RowKit Go.Deep

def vRide (l t : Int) : Bool := inB l 0 1440 && inB t 1 1440 && decide (l + t ≤ 1440)
theorem vRide_out {l t : Int} (h : vRide l t = true) : 0 ≤ l ∧ l ≤ 1440 ∧ 1 ≤ t ∧ t ≤ 1440 ∧ l + t ≤ 1440 := by
  simp only [vRide, Bool.and_eq_true, inB_iff, decide_eq_true_eq] at h; omega
/-- Ride k is valid, and leaves not before the one ahead of it has ended. -/
def rideAt (lv tk : Nat → Int) (k : Nat) : Bool := vRide (lv k) (tk k) && (decide (k = 0) || decide (lv (k - 1) + tk (k - 1) ≤ lv k))
def vTable (n : Nat) (lv tk : Nat → Int) : Bool := allTo (rideAt lv tk) n && decide (n ≤ 24)
theorem vTable_out {n : Nat} {lv tk : Nat → Int} (h : vTable n lv tk = true) : n ≤ 24 ∧ ∀ i, i < n → rideAt lv tk i = true := by
  simp only [vTable, Bool.and_eq_true, decide_eq_true_eq] at h
  exact ⟨h.2, allTo_out h.1⟩
theorem rideAt_out {lv tk : Nat → Int} {k : Nat} (h : rideAt lv tk k = true) : vRide (lv k) (tk k) = true ∧ (k ≠ 0 → lv (k - 1) + tk (k - 1) ≤ lv k) := by
  simp only [rideAt, Bool.and_eq_true, Bool.or_eq_true, decide_eq_true_eq] at h
  exact ⟨h.1, fun h0 => h.2.resolve_left h0⟩
/-- What a round meets at ride k, all before it being right. -/
theorem rideAt_cases {lv tk : Nat → Int} {k : Nat} (hno : ∀ i, i < k → rideAt lv tk i = true) :
    (vRide (lv k) (tk k) = false ∧ Hid (rideAt lv tk k = false)) ∨
    (vRide (lv k) (tk k) = true ∧ k = 0 ∧ Hid (rideAt lv tk k = true)) ∨
    (vRide (lv k) (tk k) = true ∧ 0 < k ∧ vRide (lv (k - 1)) (tk (k - 1)) = true ∧ lv (k - 1) + tk (k - 1) ≤ lv k ∧ Hid (rideAt lv tk k = true)) ∨
    (vRide (lv k) (tk k) = true ∧ 0 < k ∧ vRide (lv (k - 1)) (tk (k - 1)) = true ∧ lv k < lv (k - 1) + tk (k - 1) ∧ Hid (rideAt lv tk k = false)) := by
  cases hv : vRide (lv k) (tk k)
  · exact .inl ⟨rfl, by show rideAt lv tk k = false; unfold rideAt; rw [hv]; rfl⟩
  · by_cases h0 : k = 0
    · exact .inr (.inl ⟨rfl, h0, by show rideAt lv tk k = true; unfold rideAt; rw [hv, h0]; rfl⟩)
    · have hp := (rideAt_out (hno (k - 1) (by omega))).1
      by_cases h : lv (k - 1) + tk (k - 1) ≤ lv k
      · exact .inr (.inr (.inl ⟨rfl, by omega, hp, h, by show rideAt lv tk k = true; unfold rideAt; rw [hv]; simp [h]⟩))
      · exact .inr (.inr (.inr ⟨rfl, by omega, hp, by omega, by show rideAt lv tk k = false; unfold rideAt; rw [hv]; simp [h0]; omega⟩))
theorem vTable_no {n k : Nat} {lv tk : Nat → Int} (hk : k < n) (h : rideAt lv tk k = false) : vTable n lv tk = false := by
  unfold vTable; rw [allTo_no hk h]; rfl
theorem vTable_end {n : Nat} {lv tk : Nat → Int} (h : ∀ i, i < n → rideAt lv tk i = true) : vTable n lv tk = decide (n ≤ 24) := by
  unfold vTable; rw [allTo_yes h]; rfl
attribute [irreducible] vTable rideAt vRide

theorem vRide_cases (l t : Int) : (inB l 0 1440 = false ∧ Hid (vRide l t = false)) ∨ (inB l 0 1440 = true ∧ inB t 1 1440 = false ∧ Hid (vRide l t = false)) ∨
    (inB l 0 1440 = true ∧ inB t 1 1440 = true ∧ (0 ≤ l ∧ l ≤ 1440 ∧ 1 ≤ t ∧ t ≤ 1440) ∧ Hid (vRide l t = decide (l + t ≤ 1440))) := by
  have key : vRide l t = (inB l 0 1440 && inB t 1 1440 && decide (l + t ≤ 1440)) := by unfold vRide; rfl
  cases h1 : inB l 0 1440
  · exact .inl ⟨rfl, by rw [h1] at key; exact key⟩
  · cases h2 : inB t 1 1440
    · exact .inr (.inl ⟨rfl, rfl, by rw [h1, h2] at key; exact key⟩)
    · have := inB_out h1; have := inB_out h2
      exact .inr (.inr ⟨rfl, rfl, by omega, by rw [h1, h2] at key; show vRide l t = _; simpa using key⟩)

theorem i_validRide (l t : Int) (W : World) : Calls Tryd.prog 23 #[.agg #[.int .i64 l, .int .i64 t]] W fun e W' => e = .returned (.bool (vRide l t)) ∧ Below W.heap.size W W' := by
  rcases vRide_cases l t with ⟨h1, HV⟩ | ⟨h1, h2, HV⟩ | ⟨h1, h2, ⟨b0, b1, b2, b3⟩, HV⟩
  all_goals
    go_enter Tryd.func23, Tryd.ntmps23
    go_wp2_with (first | (go_at_call 42; refine (i_isDayMinute _ _).mono ?_; rintro e w' ⟨rfl, rfl⟩) | (go_at_call 43; refine (i_within _ _ _ _).mono ?_; rintro e w' ⟨rfl, rfl⟩))
    go_ret
    exact ⟨by rw [HV.out]; rfl, (by repeat (first | assumption | exact Below.refl _ _ | refine kept_drew ?_ | refine kept_drewN ?_ _ | refine kept_alloc ?_ _ | refine kept_set ?_ ?_ _ | (simp; done) | (simp; omega) | refine kept_trans ?_ (by assumption)))⟩

theorem s_l19One (l t : Int) (g o : Nat) (W : World) (c0 : W.cell? ⟨g, o, none⟩ = some (.int .i64 l)) (c1 : W.cell? ⟨g, o + 1, none⟩ = some (.int .i64 t)) :
    Calls Tryd.prog 20 #[.pointer (some ⟨g, o, none⟩)] W fun e W' => e = .returned (.bool (vRide l t)) ∧ ∃ m, W' = W.drewN m := by
  have q1 : ∀ w, Calls Tryd.prog 36 #[.int .i64 l] w fun e W' => e = .returned (.bool (inB l 0 1440)) ∧ W' = w := fun w => (s_l19Minute l w).mono fun _ _ ⟨he, hw⟩ => ⟨he, hw.symm⟩
  have q2 : ∀ w, Calls Tryd.prog 37 #[.int .i64 t, .int .i64 1, .int .i64 1440] w fun e W' => e = .returned (.bool (inB t 1 1440)) ∧ W' = w := fun w => (s_l00In t 1 1440 w).mono fun _ _ ⟨he, hw⟩ => ⟨he, hw.symm⟩
  rcases vRide_cases l t with ⟨h1, HV⟩ | ⟨h1, h2, HV⟩ | ⟨h1, h2, ⟨b0, b1, b2, b3⟩, HV⟩
  · rw [h1] at q1
    go_enter Tryd.func20, Tryd.ntmps20
    go_wp2_with (fail)
    go_quiet ((first | (go_at_call 36; exact Calls.quiet_of_same (q1 _)) | (go_at_call 37; exact Calls.quiet_of_same (q2 _))))
    clear q1 q2
    go_wp2_with (fail)
    go_ret
    exact ⟨by rw [HV.out]; rfl, _, rfl⟩
  · rw [h1] at q1
    rw [h2] at q2
    go_enter Tryd.func20, Tryd.ntmps20
    go_wp2_with (fail)
    go_quiet ((first | (go_at_call 36; exact Calls.quiet_of_same (q1 _)) | (go_at_call 37; exact Calls.quiet_of_same (q2 _))))
    clear q1 q2
    go_wp2_with (fail)
    go_ret
    exact ⟨by rw [HV.out]; rfl, _, rfl⟩
  · rw [h1] at q1
    rw [h2] at q2
    go_enter Tryd.func20, Tryd.ntmps20
    go_wp2_with (fail)
    go_quiet ((first | (go_at_call 36; exact Calls.quiet_of_same (q1 _)) | (go_at_call 37; exact Calls.quiet_of_same (q2 _))))
    clear q1 q2
    go_wp2_with (fail)
    go_ret
    exact ⟨by rw [HV.out]; rfl, _, rfl⟩

end Go.Proofs.YtjgajablgddkcaaDoor
