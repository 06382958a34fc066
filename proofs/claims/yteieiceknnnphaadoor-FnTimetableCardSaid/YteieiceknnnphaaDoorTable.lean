/- Timetables: valid ones, as the reference and the program ask it. -/
import Derived.Test.YteieiceknnnphaaDoorRides
namespace Go.Proofs.YteieiceknnnphaaDoor
open Go.RowKit Go.Deep

def vRide (l t : Int) : Bool := inB l 0 1440 && inB t 1 1440 && decide (l + t ≤ 1440)
theorem vRide_out {l t : Int} (h : vRide l t = true) : 0 ≤ l ∧ l ≤ 1440 ∧ 1 ≤ t ∧ t ≤ 1440 ∧ l + t ≤ 1440 := by
  simp only [vRide, Bool.and_eq_true, inB_iff, decide_eq_true_eq] at h; omega
/-- Ride k is valid, and leaves not before the one ahead of it has ended. -/
def rideAt (lv tk : Nat → Int) (k : Nat) : Bool := vRide (lv k) (tk k) && (decide (k = 0) || decide (lv (k - 1) + tk (k - 1) ≤ lv k))
def vTable (n : Nat) (lv tk : Nat → Int) : Bool := allTo (rideAt lv tk) n && decide (n ≤ 24)
theorem vTable_out {n : Nat} {lv tk : Nat → Int} (h : vTable n lv tk = true) : n ≤ 24 ∧ ∀ i, i < n → rideAt lv tk i = true := by
  simp only [vTable, Bool.and_eq_true, decide_eq_true_eq] at h
  exact ⟨h.2, allTo_out h.1⟩
theorem rideAt_out {lv tk : Nat → Int} {k : Nat} (h : rideAt lv tk k = true) : vRide (lv k) (tk k) = true ∧ (k ≠ 0 → lv (k - 1) + tk (k - 1) ≤ lv k) := by
  simp only [rideAt, Bool.and_eq_true, Bool.or_eq_true, decide_eq_true_eq] at h
  exact ⟨h.1, fun h0 => h.2.resolve_left h0⟩
/-- What a round meets at ride k, all before it being right. -/
theorem rideAt_cases {lv tk : Nat → Int} {k : Nat} (hno : ∀ i, i < k → rideAt lv tk i = true) :
    (vRide (lv k) (tk k) = false ∧ Hid (rideAt lv tk k = false)) ∨
    (vRide (lv k) (tk k) = true ∧ k = 0 ∧ Hid (rideAt lv tk k = true)) ∨
    (vRide (lv k) (tk k) = true ∧ 0 < k ∧ vRide (lv (k - 1)) (tk (k - 1)) = true ∧ lv (k - 1) + tk (k - 1) ≤ lv k ∧ Hid (rideAt lv tk k = true)) ∨
    (vRide (lv k) (tk k) = true ∧ 0 < k ∧ vRide (lv (k - 1)) (tk (k - 1)) = true ∧ lv k < lv (k - 1) + tk (k - 1) ∧ Hid (rideAt lv tk k = false)) := by
  cases hv : vRide (lv k) (tk k)
  · exact .inl ⟨rfl, by show rideAt lv tk k = false; unfold rideAt; rw [hv]; rfl⟩
  · by_cases h0 : k = 0
    · exact .inr (.inl ⟨rfl, h0, by show rideAt lv tk k = true; unfold rideAt; rw [hv, h0]; rfl⟩)
    · have hp := (rideAt_out (hno (k - 1) (by omega))).1
      by_cases h : lv (k - 1) + tk (k - 1) ≤ lv k
      · exact .inr (.inr (.inl ⟨rfl, by omega, hp, h, by show rideAt lv tk k = true; unfold rideAt; rw [hv]; simp [h]⟩))
      · exact .inr (.inr (.inr ⟨rfl, by omega, hp, by omega, by show rideAt lv tk k = false; unfold rideAt; rw [hv]; simp [h0]; omega⟩))
theorem vTable_no {n k : Nat} {lv tk : Nat → Int} (hk : k < n) (h : rideAt lv tk k = false) : vTable n lv tk = false := by
  unfold vTable; rw [allTo_no hk h]; rfl
theorem vTable_end {n : Nat} {lv tk : Nat → Int} (h : ∀ i, i < n → rideAt lv tk i = true) : vTable n lv tk = decide (n ≤ 24) := by
  unfold vTable; rw [allTo_yes h]; rfl
attribute [irreducible] vTable rideAt vRide


theorem i_ends (a b : Int) (W : World) (h : -4611686018427387904 ≤ a + b ∧ a + b ≤ 4611686018427387904) : Calls Tryd.prog 21 #[.agg #[.int .i64 a, .int .i64 b]] W fun e W' => e = .returned (.int .i64 (a + b)) ∧ Below W.heap.size W W' := by
  obtain ⟨h0, h1⟩ := h
  go_enter Tryd.func21, Tryd.ntmps21
  go_wp2
  go_ret
  exact ⟨rfl, (by repeat (first | assumption | exact Below.refl _ _ | refine kept_drew ?_ | refine kept_drewN ?_ _ | refine kept_alloc ?_ _ | refine kept_set ?_ ?_ _ | (simp; done) | (simp; omega) | refine kept_trans ?_ (by assumption)))⟩

theorem vRide_cases (l t : Int) : (inB l 0 1440 = false ∧ Hid (vRide l t = false)) ∨ (inB l 0 1440 = true ∧ inB t 1 1440 = false ∧ Hid (vRide l t = false)) ∨
    (inB l 0 1440 = true ∧ inB t 1 1440 = true ∧ (0 ≤ l ∧ l ≤ 1440 ∧ 1 ≤ t ∧ t ≤ 1440) ∧ Hid (vRide l t = decide (l + t ≤ 1440))) := by
  have key : vRide l t = (inB l 0 1440 && inB t 1 1440 && decide (l + t ≤ 1440)) := by unfold vRide; rfl
  cases h1 : inB l 0 1440
  · exact .inl ⟨rfl, by rw [h1] at key; exact key⟩
  · cases h2 : inB t 1 1440
    · exact .inr (.inl ⟨rfl, rfl, by rw [h1, h2] at key; exact key⟩)
    · have := inB_out h1; have := inB_out h2
      exact .inr (.inr ⟨rfl, rfl, by omega, by rw [h1, h2] at key; show vRide l t = _; simpa using key⟩)

theorem i_validRide (l t : Int) (W : World) : Calls Tryd.prog 22 #[.agg #[.int .i64 l, .int .i64 t]] W fun e W' => e = .returned (.bool (vRide l t)) ∧ Below W.heap.size W W' := by
  rcases vRide_cases l t with ⟨h1, HV⟩ | ⟨h1, h2, HV⟩ | ⟨h1, h2, ⟨b0, b1, b2, b3⟩, HV⟩
  all_goals
    go_enter Tryd.func22, Tryd.ntmps22
    go_wp2_with (first | (go_at_call 20; refine (i_isDayMinute _ _).mono ?_; rintro e w' ⟨rfl, rfl⟩) | (go_at_call 27; refine (i_within _ _ _ _).mono ?_; rintro e w' ⟨rfl, rfl⟩))
    go_ret
    exact ⟨by rw [HV.out]; rfl, (by repeat (first | assumption | exact Below.refl _ _ | refine kept_drew ?_ | refine kept_drewN ?_ _ | refine kept_alloc ?_ _ | refine kept_set ?_ ?_ _ | (simp; done) | (simp; omega) | refine kept_trans ?_ (by assumption)))⟩

set_option maxHeartbeats 1600000 in
theorem i_ValidTimetable (v : Value) (n : Nat) (lv tk : Nat → Int) (W : World) (hs : Sl W v 2 n (rc lv tk)) : Calls Tryd.prog 8 #[v] W fun e W' => e = .returned (.bool (vTable n lv tk)) ∧ Below W.heap.size W W' := by
  obtain ⟨hn, ao, cap, rfl, hr⟩ := hs
  have HE : Hid ((∀ i, i < n → rideAt lv tk i = true) → vTable n lv tk = decide (n ≤ 24)) := vTable_end
  have HX : Hid (∀ k, k < n → rideAt lv tk k = false → vTable n lv tk = false) := fun k hk h => vTable_no hk h
  rcases hr with h0 | ⟨g, off, rfl, hr⟩
  · have h0' : n ≤ 0 := by omega
    clear h0
    go_enter Tryd.func8, Tryd.ntmps8
    go_wp2
    refine wp_loop_rounds 1 ?_
    rw [rounds_succ]
    go_wp2
    go_ret
    exact ⟨by rw [HE.out (fun i hi => by omega)]; exact ret_bool (by simp <;> omega), (by repeat (first | assumption | exact Below.refl _ _ | refine kept_drew ?_ | refine kept_drewN ?_ _ | refine kept_alloc ?_ _ | refine kept_set ?_ ?_ _ | (simp; done) | (simp; omega) | refine kept_trans ?_ (by assumption)))⟩
  · go_enter Tryd.func8, Tryd.ntmps8
    go_wp2
    go_loopw [7] (fun i wr => ∃ k : Nat, k ≤ n ∧ i = .int .i64 k ∧ Below W.heap.size W wr ∧ Hid (∀ i, i < k → rideAt lv tk i = true)) (fun i _ => n - (intOf i).toNat)
    case atStart => exact ⟨0, Nat.zero_le _, rfl, (by repeat (first | assumption | exact Below.refl _ _ | refine kept_drew ?_ | refine kept_drewN ?_ _ | refine kept_alloc ?_ _ | refine kept_set ?_ ?_ _ | (simp; done) | (simp; omega) | refine kept_trans ?_ (by assumption))), fun i hi => by omega⟩
    case round =>
      obtain ⟨k, hk, rfl, hb, hno⟩ := hrel
      by_cases hlt : k < n
      · obtain ⟨hs0, hs1⟩ := rcells (hr.kept hb) hlt
        have hra : Row (wr.alloc (.cells #[.int .i64 (lv k), .int .i64 (tk k)] 32)) g off (n * 2) (rc lv tk) := (hr.kept hb).kept (kept_alloc (Below.refl _ _) _)
        obtain ⟨ht0, ht1⟩ := rcells hra (k := k - 1) (by omega)
        have k0 : ∀ dd os, (Go.Sort.grow (redrawn (wr.alloc (.cells #[.int .i64 (lv k), .int .i64 (tk k)] 32)) dd) os).cell? ⟨wr.heap.size, 0, none⟩ = some (.int .i64 (lv k)) := fun dd os => boxed 0 _ rfl dd os
        have k1 : ∀ dd os, (Go.Sort.grow (redrawn (wr.alloc (.cells #[.int .i64 (lv k), .int .i64 (tk k)] 32)) dd) os).cell? ⟨wr.heap.size, 1, none⟩ = some (.int .i64 (tk k)) := fun dd os => boxed 1 _ rfl dd os
        have k2 := cell_regrown ht0
        have k3 := cell_regrown ht1
        have HN : Hid (rideAt lv tk k = true → ∀ i, i < k + 1 → rideAt lv tk i = true) := fun h i hi => by
          by_cases e : i = k
          · rw [e]; exact h
          · exact hno.out i (by omega)
        have HX := Lib.hid (HX.out k hlt)
        have HC := rideAt_cases hno.out
        clear hr hra ht0 ht1
        rcases HC with ⟨hv, hp⟩ | ⟨hv, h0, hp⟩ | ⟨hv, h0, hu, hc, hp⟩ | ⟨hv, h0, hu, hc, hp⟩
        · go_wp2_with fail
          refine wp_region_quiet_below (by kernel_rfl) (by kernel_rfl) ?_
          repeat (go_big_quiet_step ((first | (go_at_call 22; exact Calls.regrown_of (i_validRide _ _ _)))))
          refine wpQuiet_nil ?_
          intro w2 hw2
          have hk := below_of_regrown hw2
          clear hw2 k0 k1 k2 k3
          obtain ⟨hc, hf⟩ := bcell hk
          have hz := hk.size
          try simp at hz
          go_wp2_with fail
          go_ret
          exact ⟨by rw [HX.out hp.out]; rfl, (by repeat (first | assumption | exact Below.refl _ _ | refine kept_drew ?_ | refine kept_drewN ?_ _ | refine kept_alloc ?_ _ | refine kept_set ?_ ?_ _ | (simp; done) | (simp; omega) | refine kept_trans ?_ (by assumption)))⟩
        · have h0' : k ≤ 0 := by omega
          have hd : decide (0 < k) = false := by simp; omega
          clear h0
          go_wp2_with fail
          refine wp_region_quiet_below (by kernel_rfl) (by kernel_rfl) ?_
          repeat (go_big_quiet_step ((first | (go_at_call 22; exact Calls.regrown_of (i_validRide _ _ _)))))
          refine wpQuiet_nil ?_
          intro w2 hw2
          have hk := below_of_regrown hw2
          clear hw2 k0 k1 k2 k3
          obtain ⟨hc, hf⟩ := bcell hk
          have hz := hk.size
          try simp at hz
          go_wp2_with fail
          go_roundw
          case rel => exact ⟨k + 1, by omega, by go_num, (by repeat (first | assumption | exact Below.refl _ _ | refine kept_drew ?_ | refine kept_drewN ?_ _ | refine kept_alloc ?_ _ | refine kept_set ?_ ?_ _ | (simp; done) | (simp; omega) | refine kept_trans ?_ (by assumption))), HN.out hp.out⟩
          case measure => simp [intOf]; omega
        · have hbd := vRide_out hu
          go_wp2_with fail
          refine wp_region_quiet_below (by kernel_rfl) (by kernel_rfl) ?_
          repeat (go_big_quiet_step ((first | (go_at_call 22; exact Calls.regrown_of (i_validRide _ _ _)) | (go_at_call 21; exact Calls.regrown_of (i_ends _ _ _ (by omega))))))
          refine wpQuiet_nil ?_
          intro w2 hw2
          have hk := below_of_regrown hw2
          clear hw2 k0 k1 k2 k3
          obtain ⟨hc, hf⟩ := bcell hk
          have hz := hk.size
          try simp at hz
          go_wp2_with fail
          go_roundw
          case rel => exact ⟨k + 1, by omega, by go_num, (by repeat (first | assumption | exact Below.refl _ _ | refine kept_drew ?_ | refine kept_drewN ?_ _ | refine kept_alloc ?_ _ | refine kept_set ?_ ?_ _ | (simp; done) | (simp; omega) | refine kept_trans ?_ (by assumption))), HN.out hp.out⟩
          case measure => simp [intOf]; omega
        · have hbd := vRide_out hu
          go_wp2_with fail
          refine wp_region_quiet_below (by kernel_rfl) (by kernel_rfl) ?_
          repeat (go_big_quiet_step ((first | (go_at_call 22; exact Calls.regrown_of (i_validRide _ _ _)) | (go_at_call 21; exact Calls.regrown_of (i_ends _ _ _ (by omega))))))
          refine wpQuiet_nil ?_
          intro w2 hw2
          have hk := below_of_regrown hw2
          clear hw2 k0 k1 k2 k3
          obtain ⟨hc, hf⟩ := bcell hk
          have hz := hk.size
          try simp at hz
          go_wp2_with fail
          go_ret
          exact ⟨by rw [HX.out hp.out]; rfl, (by repeat (first | assumption | exact Below.refl _ _ | refine kept_drew ?_ | refine kept_drewN ?_ _ | refine kept_alloc ?_ _ | refine kept_set ?_ ?_ _ | (simp; done) | (simp; omega) | refine kept_trans ?_ (by assumption)))⟩
      · have HE := Lib.hid (HE.out (fun i hi => hno.out i (by omega)))
        go_wp2
        go_ret
        exact ⟨by rw [HE.out]; exact ret_bool (by simp <;> omega), hb⟩

end Go.Proofs.YteieiceknnnphaaDoor
