/- What the law on extra rides wants: the gap that is found, the timetable with one more ride, rides at even distances. No program. -/
import Derived.Test.YtcbceodlakbpdaaDraw19
import Derived.Test.YtcbceodlakbpdaaGap
import Derived.Test.YtcbceodlakbpdaaAddR
import Derived.Test.YtcbceodlakbpdaaSlack
import Derived.Test.YtcbceodlakbpdaaEven
namespace Go.Proofs.Ytcbceodlakbpdaa
open Go.RowKit Go.Deep
set_option linter.unusedVariables false
set_option maxRecDepth 100000

theorem hasT_yes {n : Nat} {lv tk : Nat → Int} {l t u : Int} (h : ∀ i, i < n → l + t + u ≤ lv i ∨ lv i + tk i + u ≤ l) : hasT n lv tk l t u = true := by
  unfold hasT
  refine allTo_yes fun i hi => ?_
  unfold busyP
  rcases h i hi with h | h
  · rw [decide_eq_false (p := lv i < l + t + u) (by omega)]; rfl
  · rw [decide_eq_false (p := l < lv i + tk i + u) (by omega), Bool.and_false]; rfl
theorem hasT_out {n : Nat} {lv tk : Nat → Int} {l t u : Int} (h : hasT n lv tk l t u = true) : ∀ i, i < n → l + t + u ≤ lv i ∨ lv i + tk i + u ≤ l := by
  intro i hi
  unfold hasT at h
  have h1 := allTo_out h i hi
  unfold busyP at h1
  by_cases ha : lv i < l + t + u
  · by_cases hb : l < lv i + tk i + u
    · rw [decide_eq_true ha, decide_eq_true hb] at h1; cases h1
    · omega
  · omega

theorem drawn_out {n : Nat} {lv tk : Nat → Int} {a : Int} (h : DrawnTo n lv tk a) : (300 ≤ a ∧ a ≤ 499 + 23 * n) ∧ ∀ i, i < n → 300 ≤ lv i ∧ 4 ≤ tk i ∧ tk i ≤ 9 ∧ lv i + tk i ≤ a ∧ (0 < i → lv (i - 1) + tk (i - 1) ≤ lv i) := by
  unfold DrawnTo at h; exact h

/-- The first gap of a drawn timetable. -/
theorem extra_gap {n : Nat} {lv tk : Nat → Int} {a f t u : Int} (h : DrawnTo n lv tk a) (hn : n ≤ 7) (hf : 280 ≤ f ∧ f ≤ 479) (ht : 3 ≤ t ∧ t ≤ 14) (hu : 0 ≤ u ∧ u ≤ 4) :
    ∃ l, (gap n lv tk f t u).1 = l ∧ (gap n lv tk f t u).2 = 0 ∧ (f ≤ l ∧ l ≤ 700) ∧ hasT n lv tk l t u = true ∧ ∀ m, f ≤ m → m < l → hasT n lv tk m t u = false := by
  have hv := drawn_table h hn
  obtain ⟨ha, hr⟩ := drawn_out h
  have hg : gapOk f t u = true := by
    unfold gapOk
    rw [inB_yes (by omega) (by omega), inB_yes (by omega) (by omega), inB_yes (by omega) (by omega)]; rfl
  have h0 : tAsk n lv tk (gapOk f t u) = 0 := by unfold tAsk; rw [hv, hg]; rfl
  have e1 : gap n lv tk f t u = gapIn n lv tk f t u := by unfold gap; rw [if_pos h0]
  obtain ⟨s1, s2⟩ := firstTo_spec (gapP n lv tk f t u) (gapN f t)
  have hN : gapN f t = (1441 - t - f).toNat := rfl
  have hw : gapP n lv tk f t u (700 - f).toNat = true := by
    unfold gapP
    refine hasT_yes fun i hi => .inr ?_
    have := hr i hi
    omega
  have hle : firstTo (gapP n lv tk f t u) (gapN f t) ≤ (700 - f).toNat := by
    by_cases hc : firstTo (gapP n lv tk f t u) (gapN f t) ≤ (700 - f).toNat
    · exact hc
    · have := s1 (700 - f).toNat (by omega)
      rw [hw] at this
      cases this
  have hlt : firstTo (gapP n lv tk f t u) (gapN f t) < gapN f t := by omega
  have e2 : gapIn n lv tk f t u = (f + firstTo (gapP n lv tk f t u) (gapN f t), 0) := by unfold gapIn; rw [if_pos hlt]
  have hy := s2 hlt
  rw [e1, e2]
  generalize firstTo (gapP n lv tk f t u) (gapN f t) = j at *
  refine ⟨f + j, rfl, rfl, by omega, by unfold gapP at hy; exact hy, fun m h1 h2 => ?_⟩
  have := s1 (m - f).toNat (by omega)
  unfold gapP at this
  rw [show f + ((m - f).toNat : Int) = m by omega] at this
  exact this

theorem add_yes {n : Nat} {lv tk : Nat → Int} {l t u : Int} (hv : vTable n lv tk = true) (hn : n ≤ 7) (hl : 0 ≤ l ∧ l ≤ 700) (ht : 3 ≤ t ∧ t ≤ 14) (hu : 0 ≤ u ∧ u ≤ 4) (h : hasT n lv tk l t u = true) : addC n lv tk l t u = 0 ∧ addN n lv tk l t u = n + 1 := by
  have hr : vRide l t = true := by unfold vRide; rw [inB_yes (by omega) (by omega), inB_yes (by omega) (by omega), decide_eq_true (p := l + t ≤ 1440) (by omega)]; rfl
  have hi : inB u 0 1440 = true := inB_yes (by omega) (by omega)
  have h0 : addC n lv tk l t u = 0 := by unfold addC; rw [hv, hr, hi, h]; simp; omega
  exact ⟨h0, by unfold addN; rw [if_pos h0]⟩
theorem add_no {n : Nat} {lv tk : Nat → Int} {l t u : Int} (hv : vTable n lv tk = true) (hl : 0 ≤ l ∧ l ≤ 700) (ht : 3 ≤ t ∧ t ≤ 14) (hu : 0 ≤ u ∧ u ≤ 4) (h : hasT n lv tk l t u = false) : addC n lv tk l t u = 6 := by
  have hr : vRide l t = true := by unfold vRide; rw [inB_yes (by omega) (by omega), inB_yes (by omega) (by omega), decide_eq_true (p := l + t ≤ 1440) (by omega)]; rfl
  have hi : inB u 0 1440 = true := inB_yes (by omega) (by omega)
  unfold addC; rw [hv, hr, hi, h]; rfl

theorem drawn_mono {n : Nat} {lv tk : Nat → Int} {a : Int} (h : DrawnTo n lv tk a) (hn : n ≤ 7) : ∀ i j, i ≤ j → j < n → lv i ≤ lv j := table_mono (drawn_table h hn)
/-- The timetable with the ride that fits. -/
theorem extra_table {n : Nat} {lv tk : Nat → Int} {a l t u : Int} (h : DrawnTo n lv tk a) (hn : n ≤ 7) (hl : 0 ≤ l ∧ l ≤ 700) (ht : 3 ≤ t ∧ t ≤ 14) (hu : 0 ≤ u ∧ u ≤ 4) (hT : hasT n lv tk l t u = true) :
    (insK n lv l ≤ n) ∧ (∀ i, i < insK n lv l → lv i + tk i + u ≤ l ∧ 0 ≤ lv i ∧ 4 ≤ tk i) ∧ (∀ i, insK n lv l ≤ i → i < n → l + t + u ≤ lv i) := by
  have hm := drawn_mono h hn
  obtain ⟨ha, hr⟩ := drawn_out h
  have hs := firstTo_spec (fun i => decide (l < lv i)) n
  have hle := insK_le n lv l
  have hK : insK n lv l = firstTo (fun i => decide (l < lv i)) n := by unfold insK; rfl
  refine ⟨hle, fun i hi => ?_, fun i h1 h2 => ?_⟩
  · have h3 := hs.1 i (by omega)
    have h4 : lv i ≤ l := by simpa using h3
    have h5 := hr i (by omega)
    rcases hasT_out hT i (by omega) with h6 | h6
    · omega
    · omega
  · have h3 := hs.2 (by omega)
    have h4 : l < lv (insK n lv l) := by rw [hK]; simpa using h3
    have h5 := hm _ i h1 h2
    have h7 := hr i h2
    rcases hasT_out hT i h2 with h6 | h6
    · exact h6
    · omega
theorem insF_lo {k i : Nat} (x : Int) (f : Nat → Int) (h : i < k) : insF k x f i = f i := by unfold insF; rw [if_pos h]
theorem insF_at (k : Nat) (x : Int) (f : Nat → Int) : insF k x f k = x := by unfold insF; rw [if_neg (by omega), if_pos rfl]
theorem insF_hi {k i : Nat} (x : Int) (f : Nat → Int) (h : k < i) : insF k x f i = f (i - 1) := by unfold insF; rw [if_neg (by omega), if_neg (by omega)]
theorem extra_valid {n : Nat} {lv tk : Nat → Int} {a l t u : Int} (h : DrawnTo n lv tk a) (hn : n ≤ 7) (hl : 0 ≤ l ∧ l ≤ 700) (ht : 3 ≤ t ∧ t ≤ 14) (hu : 0 ≤ u ∧ u ≤ 4) (hT : hasT n lv tk l t u = true) :
    vTable (n + 1) (insF (insK n lv l) l lv) (insF (insK n lv l) t tk) = true := by
  obtain ⟨h1, h2, h3⟩ := extra_table h hn hl ht hu hT
  obtain ⟨ha, hr⟩ := drawn_out h
  generalize insK n lv l = K at *
  unfold vTable
  rw [Bool.and_eq_true, decide_eq_true_iff]
  refine ⟨allTo_yes fun i hi => ?_, by omega⟩
  have key : ∀ x y p q : Int, (0 ≤ x ∧ 1 ≤ y ∧ x + y ≤ 1440) → (i = 0 ∨ p + q ≤ x) → (vRide x y && (decide (i = 0) || decide (p + q ≤ x))) = true := fun x y p q hx hp => by
    unfold vRide
    rw [inB_yes (by omega) (by omega), inB_yes (by omega) (by omega), decide_eq_true (p := x + y ≤ 1440) (by omega)]
    rcases hp with hp | hp
    · rw [decide_eq_true hp]; rfl
    · rw [decide_eq_true hp, Bool.or_true]; rfl
  unfold rideAt
  by_cases hlo : i < K
  · rw [insF_lo _ _ hlo, insF_lo _ _ hlo, insF_lo _ _ (by omega), insF_lo _ _ (by omega)]
    have q := hr i (by omega)
    refine key _ _ _ _ (by omega) ?_
    by_cases h0 : i = 0
    · exact .inl h0
    · exact .inr (q.2.2.2.2 (by omega))
  · by_cases he : i = K
    · subst he
      rw [insF_at, insF_at]
      refine key _ _ _ _ (by omega) ?_
      by_cases h0 : i = 0
      · exact .inl h0
      · rw [insF_lo _ _ (by omega), insF_lo _ _ (by omega)]
        have := h2 (i - 1) (by omega)
        exact .inr (by omega)
    · rw [insF_hi _ _ (by omega), insF_hi _ _ (by omega)]
      have q := hr (i - 1) (by omega)
      refine key _ _ _ _ (by omega) (.inr ?_)
      by_cases hx : i - 1 = K
      · rw [hx, insF_at, insF_at]
        have := h3 K (Nat.le_refl _) (by omega)
        omega
      · rw [insF_hi _ _ (by omega), insF_hi _ _ (by omega)]
        exact q.2.2.2.2 (by omega)
/-- Where the new ride stands, and that its turns are kept. -/
theorem extra_slack {n : Nat} {lv tk : Nat → Int} {a l t u : Int} (h : DrawnTo n lv tk a) (hn : n ≤ 7) (hl : 0 ≤ l ∧ l ≤ 700) (ht : 3 ≤ t ∧ t ≤ 14) (hu : 0 ≤ u ∧ u ≤ 4) (hT : hasT n lv tk l t u = true) :
    ∀ i, i < n + 1 → insF (insK n lv l) l lv i = l →
      (0 < i → 0 ≤ slackZ (insF (insK n lv l) l lv) (insF (insK n lv l) t tk) u (i - 1)) ∧ (i < n → 0 ≤ slackZ (insF (insK n lv l) l lv) (insF (insK n lv l) t tk) u i) := by
  obtain ⟨h1, h2, h3⟩ := extra_table h hn hl ht hu hT
  obtain ⟨ha, hr⟩ := drawn_out h
  generalize insK n lv l = K at *
  intro i hi he
  have hiK : i = K := by
    by_cases hlo : i < K
    · rw [insF_lo _ _ hlo] at he
      have := h2 i hlo
      omega
    · by_cases hhi : K < i
      · rw [insF_hi _ _ hhi] at he
        have := h3 (i - 1) (by omega) (by omega)
        omega
      · omega
  subst hiK
  unfold slackZ
  refine ⟨fun h0 => ?_, fun h0 => ?_⟩
  · rw [show i - 1 + 1 = i by omega, insF_at, insF_lo _ _ (by omega), insF_lo _ _ (by omega)]
    have := h2 (i - 1) (by omega)
    omega
  · rw [insF_at, insF_at, insF_hi _ _ (by omega), Nat.add_sub_cancel]
    have := h3 i (Nat.le_refl _) h0
    omega
/-- The slack of a valid timetable is told. -/
theorem slack_ok {n : Nat} {lv tk : Nat → Int} {u : Int} (h : vTable n lv tk = true) (hu : 0 ≤ u ∧ u ≤ 4) : slack n lv tk u = (n - 1, 0) := by
  have hi : inB u 0 1440 = true := inB_yes (by omega) (by omega)
  have h0 : tAsk n lv tk (inB u 0 1440) = 0 := by unfold tAsk; rw [h, hi]; rfl
  unfold slack; rw [if_pos h0]

/-- Rides at even distances. -/
theorem even_ok {f u e t : Int} (hf : 280 ≤ f ∧ f ≤ 479) (hu : f ≤ u ∧ u ≤ f + 199) (ht : 3 ≤ t ∧ t ≤ 14) (he : t ≤ e ∧ e ≤ t + 19) :
    (even f u e t = (0, 5) ∧ f + 24 * e + t ≤ u) ∨ (∃ C : Nat, even f u e t = (C, 0) ∧ C ≤ 24 ∧ (∀ i : Nat, i < C → f + i * e + t ≤ u) ∧ u < f + C * e + t) := by
  have hv : vEven f u e t = true := by
    unfold vEven
    rw [vSpan_alt, inB_yes (by omega) (by omega), inB_yes (by omega) (by omega), inB_yes (by omega) (by omega), inB_yes (by omega) (by omega)]; rfl
  have he0 : ¬ e < t := by omega
  obtain ⟨s1, s2⟩ := firstTo_spec (fun k : Nat => decide (u < f + k * e + t)) 1441
  have hC : evenC f u e t = firstTo (fun k : Nat => decide (u < f + k * e + t)) 1441 := by unfold evenC; rfl
  by_cases hc : 24 < evenC f u e t
  · refine .inl ⟨by unfold even; rw [hv, if_pos rfl, if_neg he0, if_pos hc], ?_⟩
    have := s1 24 (by omega)
    have h2 : ¬ u < f + ((24 : Nat) : Int) * e + t := by simpa using this
    omega
  · refine .inr ⟨evenC f u e t, by unfold even; rw [hv, if_pos rfl, if_neg he0, if_neg hc], by omega, fun i hi => ?_, ?_⟩
    · have := s1 i (by omega)
      have h2 : ¬ u < f + (i : Int) * e + t := by simpa using this
      omega
    · have := s2 (by omega)
      rw [hC]
      simpa using this
theorem even_valid {f u e t : Int} {C : Nat} (hf : 280 ≤ f ∧ f ≤ 479) (hu : f ≤ u ∧ u ≤ f + 199) (ht : 3 ≤ t ∧ t ≤ 14) (he : t ≤ e ∧ e ≤ t + 19) (hC : C ≤ 24) (h : ∀ i : Nat, i < C → f + i * e + t ≤ u) :
    vTable C (fun k => f + k * e) (fun _ => t) = true := by
  unfold vTable
  rw [Bool.and_eq_true, decide_eq_true_iff]
  refine ⟨allTo_yes fun i hi => ?_, hC⟩
  have h1 := h i hi
  have h0 : 0 ≤ (i : Int) * e := Int.mul_nonneg (by omega) (by omega)
  unfold rideAt vRide
  simp only
  rw [inB_yes (by omega) (by omega), inB_yes (by omega) (by omega), decide_eq_true (p := f + (i : Int) * e + t ≤ 1440) (by omega)]
  by_cases hz : i = 0
  · rw [decide_eq_true hz]; rfl
  · have e1 : (((i - 1 : Nat)) : Int) * e + e = (i : Int) * e := by
      rw [show ((i - 1 : Nat) : Int) = (i : Int) - 1 by omega, Int.sub_mul]; omega
    rw [decide_eq_true (p := f + (((i - 1 : Nat)) : Int) * e + t ≤ f + (i : Int) * e) (by omega), Bool.or_true]; rfl

end Go.Proofs.Ytcbceodlakbpdaa
