/- Draining: the reference's function and the program's compute the same plain function. -/
import Derived.Test.YtelgkgbglomcnaaFuncs
namespace Go.Proofs.Ytelgkgbglomcnaa
open Go.RowKit Go.Deep

def drainV (s w r : Int) (k : Nat) : Int := rnd (s * max 0 (w - r * k)) w
def drainN (s l w r : Int) : Nat := firstTo (fun k => decide (drainV s w r k ≤ l)) 20000
def drain (s l w r : Int) : Int × Int :=
  if inB s 0 20000 && inB l 0 20000 && inB w 0 20000 && inB r 1 1000 then
    if s ≤ l then (0, 0) else if w = 0 then (0, 3) else ((drainN s l w r : Int), 0)
  else (0, 2)
theorem drainV_in {s w r : Int} {k : Nat} (h : 0 ≤ w - r * k) : drainV s w r k = rnd (s * (w - r * k)) w := by unfold drainV; congr 2; omega
theorem drainV_out {s w r : Int} {k : Nat} (h : w - r * k ≤ 0) : drainV s w r k = rnd 0 w := by unfold drainV; rw [show max 0 (w - r * k) = 0 by omega, Int.mul_zero]
theorem rnd_zero {w : Int} (h : 1 ≤ w) : rnd 0 w = 0 := by
  unfold rnd; rw [if_neg (by omega)]; exact Int.ediv_eq_zero_of_lt (by omega) (by omega)
theorem rnd_mul {s w : Int} (hs : 0 ≤ s) (h : 1 ≤ w) : rnd (s * w) w = s := by
  have h0 := Int.mul_nonneg hs (show 0 ≤ w by omega)
  unfold rnd; rw [if_neg (by omega)]
  have e : 2 * (s * w) + w = w + 2 * w * s := by rw [Int.mul_assoc, Int.mul_comm w s]; omega
  rw [e, Int.add_mul_ediv_left _ _ (by omega), Int.ediv_eq_zero_of_lt (by omega) (by omega)]; omega
theorem drain_last {s l w r : Int} {k : Nat} (hl : 0 ≤ l) (hw : 1 ≤ w ∧ w ≤ 20000) (hr : 1 ≤ r) (hk : 20000 ≤ (k : Int)) : drainV s w r k ≤ l := by
  have h1 : 1 * (k : Int) ≤ r * k := Int.mul_le_mul_of_nonneg_right hr (by omega)
  by_cases h : 0 ≤ w - r * k
  · rw [drainV_in h, show w - r * k = 0 by omega, Int.mul_zero, rnd_zero hw.1]; exact hl
  · rw [drainV_out (by omega), rnd_zero hw.1]; exact hl
theorem drain_first {s l w r : Int} (hs : 0 ≤ s) (hw : 1 ≤ w) (h : l < s) : l < drainV s w r 0 := by
  have : drainV s w r 0 = s := by
    rw [drainV_in (by simp; omega)]
    simp only [Int.natCast_zero, Int.mul_zero, Int.sub_zero]
    exact rnd_mul hs hw
  omega
theorem drainN_eq {s l w r : Int} {k : Nat} (hk : (k : Int) ≤ 20000) (hb : ∀ i, i < k → l < drainV s w r i) (ha : drainV s w r k ≤ l) : drainN s l w r = k :=
  firstTo_eq (by omega) (fun i hi => by have := hb i hi; simpa using this) (fun _ => by simpa using ha)

theorem drain_cases (s l w r : Int) :
    (Hid (drain s l w r = (0, 2)) ∧ (inB s 0 20000 = false ∨ (inB s 0 20000 = true ∧ inB l 0 20000 = false) ∨ (inB s 0 20000 = true ∧ inB l 0 20000 = true ∧ inB w 0 20000 = false) ∨ (inB s 0 20000 = true ∧ inB l 0 20000 = true ∧ inB w 0 20000 = true ∧ inB r 1 1000 = false))) ∨
    (inB s 0 20000 = true ∧ inB l 0 20000 = true ∧ inB w 0 20000 = true ∧ inB r 1 1000 = true ∧
      ((s ≤ l ∧ Hid (drain s l w r = (0, 0))) ∨ (l < s ∧ w = 0 ∧ Hid (drain s l w r = (0, 3))) ∨ (l < s ∧ 1 ≤ w ∧ Hid (drain s l w r = ((drainN s l w r : Int), 0))))) := by
  have key : ∀ b, (inB s 0 20000 && inB l 0 20000 && inB w 0 20000 && inB r 1 1000) = b → drain s l w r = if b then (if s ≤ l then (0, 0) else if w = 0 then (0, 3) else ((drainN s l w r : Int), 0)) else (0, 2) := by
    intro b hb; unfold drain; rw [hb]
  cases h1 : inB s 0 20000
  · exact .inl ⟨key false (by simp [h1]), .inl rfl⟩
  cases h2 : inB l 0 20000
  · exact .inl ⟨key false (by simp [h2]), .inr (.inl ⟨rfl, rfl⟩)⟩
  cases h3 : inB w 0 20000
  · exact .inl ⟨key false (by simp [h3]), .inr (.inr (.inl ⟨rfl, rfl, rfl⟩))⟩
  cases h4 : inB r 1 1000
  · exact .inl ⟨key false (by simp [h4]), .inr (.inr (.inr ⟨rfl, rfl, rfl, rfl⟩))⟩
  refine .inr ⟨rfl, rfl, rfl, rfl, ?_⟩
  have hk := key true (by simp [h1, h2, h3, h4])
  simp only [if_true] at hk
  have hw := inB_out h3
  by_cases hs : s ≤ l
  · exact .inl ⟨hs, by rw [if_pos hs] at hk; exact hk⟩
  · by_cases h0 : w = 0
    · exact .inr (.inl ⟨by omega, h0, by rw [if_neg hs, if_pos h0] at hk; exact hk⟩)
    · exact .inr (.inr ⟨by omega, by omega, by rw [if_neg hs, if_neg h0] at hk; exact hk⟩)

attribute [irreducible] drainN drainV drain

set_option maxHeartbeats 1000000 in
theorem i_DrainFor (s l w r : Int) (W : World) : Calls Try.prog 42 #[.int .i64 s, .int .i64 l, .int .i64 w, .int .i64 r] W fun e W' => e = .returned (.tuple #[.int .i64 (drain s l w r).1, .int .i64 (drain s l w r).2]) ∧ Below W.heap.size W W' := by
  rcases drain_cases s l w r with ⟨HF, h⟩ | ⟨h1, h2, h3, h4, h⟩
  · rcases h with h1 | ⟨h1, h2⟩ | ⟨h1, h2, h3⟩ | ⟨h1, h2, h3, h4⟩
    all_goals
      go_enter Try.func42, Try.ntmps42
      go_wp2_with (first | (go_at_call 85; refine (i_isPace _ _).mono ?_; rintro e w' ⟨rfl, rfl⟩) | (go_at_call 58; refine (i_isTank _ _).mono ?_; rintro e w' ⟨rfl, rfl⟩) | (go_at_call 48; refine (i_within _ _ _ _).mono ?_; rintro e w' ⟨rfl, rfl⟩))
      go_ret2
      exact ⟨by rw [HF.out]; rfl, (by repeat (first | assumption | exact Below.refl _ _ | refine kept_drew ?_ | refine kept_drewN ?_ _ | refine kept_alloc ?_ _ | refine kept_set ?_ ?_ _ | (simp; done) | (simp; omega) | refine kept_trans ?_ (by assumption)))⟩
  · obtain ⟨a0, a1⟩ := inB_out h1
    obtain ⟨b0, b1⟩ := inB_out h2
    obtain ⟨c0, c1⟩ := inB_out h3
    obtain ⟨d0, d1⟩ := inB_out h4
    rcases h with ⟨hs, HF⟩ | ⟨hs, h0, HF⟩ | ⟨hs, hw, HF⟩
    · go_enter Try.func42, Try.ntmps42
      go_wp2_with (first | (go_at_call 85; refine (i_isPace _ _).mono ?_; rintro e w' ⟨rfl, rfl⟩) | (go_at_call 58; refine (i_isTank _ _).mono ?_; rintro e w' ⟨rfl, rfl⟩) | (go_at_call 48; refine (i_within _ _ _ _).mono ?_; rintro e w' ⟨rfl, rfl⟩))
      go_ret2
      exact ⟨by rw [HF.out]; rfl, (by repeat (first | assumption | exact Below.refl _ _ | refine kept_drew ?_ | refine kept_drewN ?_ _ | refine kept_alloc ?_ _ | refine kept_set ?_ ?_ _ | (simp; done) | (simp; omega) | refine kept_trans ?_ (by assumption)))⟩
    · subst h0
      go_enter Try.func42, Try.ntmps42
      go_wp2_with (first | (go_at_call 85; refine (i_isPace _ _).mono ?_; rintro e w' ⟨rfl, rfl⟩) | (go_at_call 58; refine (i_isTank _ _).mono ?_; rintro e w' ⟨rfl, rfl⟩) | (go_at_call 48; refine (i_within _ _ _ _).mono ?_; rintro e w' ⟨rfl, rfl⟩))
      go_ret2
      exact ⟨by rw [HF.out]; rfl, (by repeat (first | assumption | exact Below.refl _ _ | refine kept_drew ?_ | refine kept_drewN ?_ _ | refine kept_alloc ?_ _ | refine kept_set ?_ ?_ _ | (simp; done) | (simp; omega) | refine kept_trans ?_ (by assumption)))⟩
    · have hw0 : (w == 0) = false := by simp; omega
      go_enter Try.func42, Try.ntmps42
      go_wp2_with (first | (go_at_call 85; refine (i_isPace _ _).mono ?_; rintro e w' ⟨rfl, rfl⟩) | (go_at_call 58; refine (i_isTank _ _).mono ?_; rintro e w' ⟨rfl, rfl⟩) | (go_at_call 48; refine (i_within _ _ _ _).mono ?_; rintro e w' ⟨rfl, rfl⟩))
      go_loopw [10] (fun a wr => ∃ k : Nat, (k : Int) ≤ 20000 ∧ a = .int .i64 k ∧ Below W.heap.size W wr ∧ Hid (∀ i, i < k → l < drainV s w r i)) (fun a _ => (20000 - intOf a).toNat)
      case atStart => exact ⟨0, by omega, rfl, (by repeat (first | assumption | exact Below.refl _ _ | refine kept_drew ?_ | refine kept_drewN ?_ _ | refine kept_alloc ?_ _ | refine kept_set ?_ ?_ _ | (simp; done) | (simp; omega) | refine kept_trans ?_ (by assumption))), fun i hi => by omega⟩
      case round =>
        obtain ⟨k, hk, rfl, hb, hno⟩ := hrel
        have hm : 0 ≤ r * (k : Int) ∧ r * (k : Int) ≤ 20000000 := mul_bd (show 0 ≤ r by omega) d1 (show (0 : Int) ≤ k by omega) hk
        obtain ⟨hm0, hm1⟩ := hm
        by_cases hP : drainV s w r k ≤ l
        · have HN := Lib.hid (drainN_eq hk hno.out hP)
          by_cases hin : 0 < w - r * k
          · rw [drainV_in (by omega)] at hP
            have hm2 : 0 ≤ s * (w - r * (k : Int)) ∧ s * (w - r * (k : Int)) ≤ 400000000 := mul_bd a0 a1 (show 0 ≤ w - r * (k : Int) by omega) (show w - r * k ≤ 20000 by omega)
            obtain ⟨hm2, hm3⟩ := hm2
            go_wp2_with (first | (go_at_call 86; refine (i_nearest _ _ _ ?_).mono ?_; (omega); rintro e w' ⟨rfl, m, rfl⟩))
            all_goals
              go_ret2
              exact ⟨by rw [HF.out, HN.out]; rfl, (by repeat (first | assumption | exact Below.refl _ _ | refine kept_drew ?_ | refine kept_drewN ?_ _ | refine kept_alloc ?_ _ | refine kept_set ?_ ?_ _ | (simp; done) | (simp; omega) | refine kept_trans ?_ (by assumption)))⟩
          · rw [drainV_out (by omega)] at hP
            go_wp2_with (first | (go_at_call 86; refine (i_nearest _ _ _ ?_).mono ?_; (omega); rintro e w' ⟨rfl, m, rfl⟩))
            all_goals
              go_ret2
              exact ⟨by rw [HF.out, HN.out]; rfl, (by repeat (first | assumption | exact Below.refl _ _ | refine kept_drew ?_ | refine kept_drewN ?_ _ | refine kept_alloc ?_ _ | refine kept_set ?_ ?_ _ | (simp; done) | (simp; omega) | refine kept_trans ?_ (by assumption)))⟩
        · have hlt : (k : Int) < 20000 := by
            by_cases h : (k : Int) < 20000
            · exact h
            · exact absurd (drain_last (s := s) (r := r) b0 ⟨hw, c1⟩ d0 (by omega)) hP
          have HN : Hid (∀ i, i < k + 1 → l < drainV s w r i) := fun i hi => by
            by_cases e : i = k
            · rw [e]; exact Int.not_le.1 hP
            · exact hno.out i (by omega)
          by_cases hin : 0 < w - r * k
          · rw [drainV_in (by omega)] at hP
            have hm2 : 0 ≤ s * (w - r * (k : Int)) ∧ s * (w - r * (k : Int)) ≤ 400000000 := mul_bd a0 a1 (show 0 ≤ w - r * (k : Int) by omega) (show w - r * k ≤ 20000 by omega)
            obtain ⟨hm2, hm3⟩ := hm2
            go_wp2_with (first | (go_at_call 86; refine (i_nearest _ _ _ ?_).mono ?_; (omega); rintro e w' ⟨rfl, m, rfl⟩))
            all_goals
              go_roundw
              case rel => exact ⟨k + 1, by omega, by go_num, (by repeat (first | assumption | exact Below.refl _ _ | refine kept_drew ?_ | refine kept_drewN ?_ _ | refine kept_alloc ?_ _ | refine kept_set ?_ ?_ _ | (simp; done) | (simp; omega) | refine kept_trans ?_ (by assumption))), HN⟩
              case measure => simp [intOf]; omega
          · rw [drainV_out (by omega)] at hP
            go_wp2_with (first | (go_at_call 86; refine (i_nearest _ _ _ ?_).mono ?_; (omega); rintro e w' ⟨rfl, m, rfl⟩))
            all_goals
              go_roundw
              case rel => exact ⟨k + 1, by omega, by go_num, (by repeat (first | assumption | exact Below.refl _ _ | refine kept_drew ?_ | refine kept_drewN ?_ _ | refine kept_alloc ?_ _ | refine kept_set ?_ ?_ _ | (simp; done) | (simp; omega) | refine kept_trans ?_ (by assumption))), HN⟩
              case measure => simp [intOf]; omega

set_option maxRecDepth 100000 in
set_option maxHeartbeats 1000000 in
theorem s_DrainFor (s l w r : Int) (W : World) : Calls Try.prog 41 #[.int .i64 s, .int .i64 l, .int .i64 w, .int .i64 r] W fun e W' => e = .returned (.tuple #[.int .i64 (drain s l w r).1, .int .i64 (drain s l w r).2]) ∧ Below W.heap.size W W' := by
  rcases drain_cases s l w r with ⟨HF, h⟩ | ⟨h1, h2, h3, h4, h⟩
  · rcases h with h1 | ⟨h1, h2⟩ | ⟨h1, h2, h3⟩ | ⟨h1, h2, h3, h4⟩
    all_goals
      go_enter Try.func41, Try.ntmps41
      go_wp2_with (first | (go_at_call 81; refine (s_l04Speed _ _).mono ?_; rintro e w' ⟨rfl, rfl⟩) | (go_at_call 56; refine (s_l16Litres _ _).mono ?_; rintro e w' ⟨rfl, rfl⟩) | (go_at_call 82; refine (s_l00In _ _ _ _).mono ?_; rintro e w' ⟨rfl, rfl⟩))
      go_ret2
      exact ⟨by rw [HF.out]; rfl, (by repeat (first | assumption | exact Below.refl _ _ | refine kept_drew ?_ | refine kept_drewN ?_ _ | refine kept_alloc ?_ _ | refine kept_set ?_ ?_ _ | (simp; done) | (simp; omega) | refine kept_trans ?_ (by assumption)))⟩
  · obtain ⟨a0, a1⟩ := inB_out h1
    obtain ⟨b0, b1⟩ := inB_out h2
    obtain ⟨c0, c1⟩ := inB_out h3
    obtain ⟨d0, d1⟩ := inB_out h4
    rcases h with ⟨hs, HF⟩ | ⟨hs, h0, HF⟩ | ⟨hs, hw, HF⟩
    · go_enter Try.func41, Try.ntmps41
      go_wp2_with (first | (go_at_call 81; refine (s_l04Speed _ _).mono ?_; rintro e w' ⟨rfl, rfl⟩) | (go_at_call 56; refine (s_l16Litres _ _).mono ?_; rintro e w' ⟨rfl, rfl⟩) | (go_at_call 82; refine (s_l00In _ _ _ _).mono ?_; rintro e w' ⟨rfl, rfl⟩))
      go_ret2
      exact ⟨by rw [HF.out]; rfl, (by repeat (first | assumption | exact Below.refl _ _ | refine kept_drew ?_ | refine kept_drewN ?_ _ | refine kept_alloc ?_ _ | refine kept_set ?_ ?_ _ | (simp; done) | (simp; omega) | refine kept_trans ?_ (by assumption)))⟩
    · subst h0
      go_enter Try.func41, Try.ntmps41
      go_wp2_with (first | (go_at_call 81; refine (s_l04Speed _ _).mono ?_; rintro e w' ⟨rfl, rfl⟩) | (go_at_call 56; refine (s_l16Litres _ _).mono ?_; rintro e w' ⟨rfl, rfl⟩) | (go_at_call 82; refine (s_l00In _ _ _ _).mono ?_; rintro e w' ⟨rfl, rfl⟩))
      go_ret2
      exact ⟨by rw [HF.out]; rfl, (by repeat (first | assumption | exact Below.refl _ _ | refine kept_drew ?_ | refine kept_drewN ?_ _ | refine kept_alloc ?_ _ | refine kept_set ?_ ?_ _ | (simp; done) | (simp; omega) | refine kept_trans ?_ (by assumption)))⟩
    · have hw0 : (w == 0) = false := by simp; omega
      have hfst := Lib.hid (drain_first (r := r) a0 hw hs)
      go_enter Try.func41, Try.ntmps41
      go_wp2_with (first | (go_at_call 81; refine (s_l04Speed _ _).mono ?_; rintro e w' ⟨rfl, rfl⟩) | (go_at_call 56; refine (s_l16Litres _ _).mono ?_; rintro e w' ⟨rfl, rfl⟩) | (go_at_call 82; refine (s_l00In _ _ _ _).mono ?_; rintro e w' ⟨rfl, rfl⟩))
      go_loopw [10] (fun a wr => ∃ k : Nat, (k : Int) ≤ 20000 ∧ a = .int .i64 k ∧ Below W.heap.size W wr ∧ Hid (∀ i, i < k → l < drainV s w r i)) (fun a _ => (20000 - intOf a).toNat)
      case atStart => exact ⟨1, by omega, rfl, (by repeat (first | assumption | exact Below.refl _ _ | refine kept_drew ?_ | refine kept_drewN ?_ _ | refine kept_alloc ?_ _ | refine kept_set ?_ ?_ _ | (simp; done) | (simp; omega) | refine kept_trans ?_ (by assumption))), fun i hi => by rw [show i = 0 by omega]; exact hfst.out⟩
      case round =>
        obtain ⟨k, hk, rfl, hb, hno⟩ := hrel
        clear hfst
        have hm : 0 ≤ r * (k : Int) ∧ r * (k : Int) ≤ 20000000 := mul_bd (show 0 ≤ r by omega) d1 (show (0 : Int) ≤ k by omega) hk
        obtain ⟨hm0, hm1⟩ := hm
        rw [Int.mul_comm r] at hm0 hm1
        by_cases hP : drainV s w r k ≤ l
        · have HN := Lib.hid (drainN_eq hk hno.out hP)
          by_cases hin : 0 ≤ w - k * r
          · rw [drainV_in (by rw [Int.mul_comm r]; exact hin), Int.mul_comm r] at hP
            have hm2 : 0 ≤ s * (w - (k : Int) * r) ∧ s * (w - (k : Int) * r) ≤ 400000000 := mul_bd a0 a1 hin (show w - k * r ≤ 20000 by omega)
            obtain ⟨hm2, hm3⟩ := hm2
            go_wp2_with (first | (go_at_call 83; refine (s_l00Max_r _ _ _ ?_).mono ?_; (omega); rintro e w' ⟨rfl, rfl⟩) | (go_at_call 83; refine (s_l00Max_l _ _ _ ?_).mono ?_; (omega); rintro e w' ⟨rfl, rfl⟩) | (go_at_call 84; refine (s_l01Div _ _ _ ?_).mono ?_; (omega); rintro e w' ⟨rfl, rfl⟩))
            all_goals
              go_ret2
              exact ⟨by rw [HF.out, HN.out]; rfl, (by repeat (first | assumption | exact Below.refl _ _ | refine kept_drew ?_ | refine kept_drewN ?_ _ | refine kept_alloc ?_ _ | refine kept_set ?_ ?_ _ | (simp; done) | (simp; omega) | refine kept_trans ?_ (by assumption)))⟩
          · rw [drainV_out (by rw [Int.mul_comm r]; omega)] at hP
            go_wp2_with (first | (go_at_call 83; refine (s_l00Max_r _ _ _ ?_).mono ?_; (omega); rintro e w' ⟨rfl, rfl⟩) | (go_at_call 83; refine (s_l00Max_l _ _ _ ?_).mono ?_; (omega); rintro e w' ⟨rfl, rfl⟩) | (go_at_call 84; refine (s_l01Div _ _ _ ?_).mono ?_; (omega); rintro e w' ⟨rfl, rfl⟩))
            all_goals
              go_ret2
              exact ⟨by rw [HF.out, HN.out]; rfl, (by repeat (first | assumption | exact Below.refl _ _ | refine kept_drew ?_ | refine kept_drewN ?_ _ | refine kept_alloc ?_ _ | refine kept_set ?_ ?_ _ | (simp; done) | (simp; omega) | refine kept_trans ?_ (by assumption)))⟩
        · have hlt : (k : Int) < 20000 := by
            by_cases h : (k : Int) < 20000
            · exact h
            · exact absurd (drain_last (s := s) (r := r) b0 ⟨hw, c1⟩ d0 (by omega)) hP
          have HN : Hid (∀ i, i < k + 1 → l < drainV s w r i) := fun i hi => by
            by_cases e : i = k
            · rw [e]; exact Int.not_le.1 hP
            · exact hno.out i (by omega)
          by_cases hin : 0 ≤ w - k * r
          · rw [drainV_in (by rw [Int.mul_comm r]; exact hin), Int.mul_comm r] at hP
            have hm2 : 0 ≤ s * (w - (k : Int) * r) ∧ s * (w - (k : Int) * r) ≤ 400000000 := mul_bd a0 a1 hin (show w - k * r ≤ 20000 by omega)
            obtain ⟨hm2, hm3⟩ := hm2
            go_wp2_with (first | (go_at_call 83; refine (s_l00Max_r _ _ _ ?_).mono ?_; (omega); rintro e w' ⟨rfl, rfl⟩) | (go_at_call 83; refine (s_l00Max_l _ _ _ ?_).mono ?_; (omega); rintro e w' ⟨rfl, rfl⟩) | (go_at_call 84; refine (s_l01Div _ _ _ ?_).mono ?_; (omega); rintro e w' ⟨rfl, rfl⟩))
            all_goals
              go_roundw
              case rel => exact ⟨k + 1, by omega, by go_num, (by repeat (first | assumption | exact Below.refl _ _ | refine kept_drew ?_ | refine kept_drewN ?_ _ | refine kept_alloc ?_ _ | refine kept_set ?_ ?_ _ | (simp; done) | (simp; omega) | refine kept_trans ?_ (by assumption))), HN⟩
              case measure => simp [intOf]; omega
          · rw [drainV_out (by rw [Int.mul_comm r]; omega)] at hP
            go_wp2_with (first | (go_at_call 83; refine (s_l00Max_r _ _ _ ?_).mono ?_; (omega); rintro e w' ⟨rfl, rfl⟩) | (go_at_call 83; refine (s_l00Max_l _ _ _ ?_).mono ?_; (omega); rintro e w' ⟨rfl, rfl⟩) | (go_at_call 84; refine (s_l01Div _ _ _ ?_).mono ?_; (omega); rintro e w' ⟨rfl, rfl⟩))
            all_goals
              go_roundw
              case rel => exact ⟨k + 1, by omega, by go_num, (by repeat (first | assumption | exact Below.refl _ _ | refine kept_drew ?_ | refine kept_drewN ?_ _ | refine kept_alloc ?_ _ | refine kept_set ?_ ?_ _ | (simp; done) | (simp; omega) | refine kept_trans ?_ (by assumption))), HN⟩
              case measure => simp [intOf]; omega

theorem l_DrainFor (s l w r : Int) (W : World) : Calls Try.prog 12 #[.int .i64 s, .int .i64 l, .int .i64 w, .int .i64 r] W (Truly W) := by
  go_enter Try.func12, Try.ntmps12
  go_wp2_with (first | (go_at_call 41; refine (s_DrainFor _ _ _ _ _).mono ?_; rintro e w1 ⟨rfl, hb⟩; have hk := kept_trans (by first | assumption | exact kept_alloc (by assumption) _ | exact kept_drew (by assumption) | exact Below.refl _ _) hb; obtain ⟨hc, hf⟩ := bcell hk; have hz := hk.size; try simp at hz) | (go_at_call 42; refine (i_DrainFor _ _ _ _ _).mono ?_; rintro e w1 ⟨rfl, hb⟩; have hk := kept_trans (by first | assumption | exact kept_alloc (by assumption) _ | exact kept_drew (by assumption) | exact Below.refl _ _) hb; obtain ⟨hc, hf⟩ := bcell hk; have hz := hk.size; try simp at hz))
  go_ret
  exact ⟨rfl, (by repeat (first | assumption | exact Below.refl _ _ | refine kept_drew ?_ | refine kept_drewN ?_ _ | refine kept_alloc ?_ _ | refine kept_set ?_ ?_ _ | (simp; done) | (simp; omega) | refine kept_trans ?_ (by assumption)))⟩

end Go.Proofs.Ytelgkgbglomcnaa
