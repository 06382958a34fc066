/- People who are asked to come later. -/
import Derived.Test.YtobpeiimiglknaaQueues
namespace Go.Proofs.Ytobpeiimiglknaa
open Go.RowKit Go.Deep
set_option linter.unusedVariables false

def smIn (n : Nat) (z : Nat → Int) (k : Nat) : Int := if k < n then z k else 0
/-- How many are late behind k minutes. -/
def sm (n : Nat) (z : Nat → Int) (most : Int) : Nat → Int
  | 0 => 0
  | k + 1 => sm n z most k + smIn n z k - (if most < sm n z most k + smIn n z k then most else sm n z most k + smIn n z k)
def smO (n : Nat) (z : Nat → Int) (most : Int) (k : Nat) : Int := if most < sm n z most k + smIn n z k then most else sm n z most k + smIn n z k
theorem sm_zero (n : Nat) (z : Nat → Int) (most : Int) : sm n z most 0 = 0 := rfl
theorem sm_in {n : Nat} {z : Nat → Int} {most : Int} {k : Nat} (h : k < n) : smO n z most k = (if most < sm n z most k + z k then most else sm n z most k + z k) ∧ sm n z most (k + 1) = sm n z most k + z k - (if most < sm n z most k + z k then most else sm n z most k + z k) := by
  simp only [smO, sm, smIn, if_pos h, and_self]
theorem sm_out {n : Nat} {z : Nat → Int} {most : Int} {k : Nat} (h : n ≤ k) : smO n z most k = (if most < sm n z most k then most else sm n z most k) ∧ sm n z most (k + 1) = sm n z most k - (if most < sm n z most k then most else sm n z most k) := by
  simp only [smO, sm, smIn, if_neg (show ¬ k < n by omega), Int.add_zero, and_self]
theorem min_if (a b : Int) : min a b = if b < a then b else a := by split <;> omega
theorem sm_bd {n : Nat} {z : Nat → Int} {most : Int} (hz : ∀ i, i < n → 0 ≤ z i ∧ z i ≤ 1000) (hm : 1 ≤ most) : ∀ k : Nat, 0 ≤ sm n z most k ∧ sm n z most k ≤ 1000 * k := by
  intro k
  induction k with
  | zero => simp [sm]
  | succ k ih =>
    by_cases h : k < n
    · have h1 := hz k h
      rw [(sm_in h).2]
      split <;> omega
    · rw [(sm_out (by omega)).2]
      split <;> omega
attribute [irreducible] sm smO
def smP (n : Nat) (z : Nat → Int) (most : Int) : Nat → Bool := fun k => decide (n ≤ k) && decide (sm n z most k = 0)
theorem smP_no {n : Nat} {z : Nat → Int} {most : Int} {k : Nat} (h : k < n ∨ 0 < sm n z most k) : smP n z most k = false := by
  unfold smP
  rcases h with h | h
  · simp; omega
  · simp; intro _; omega
theorem smP_yes {n : Nat} {z : Nat → Int} {most : Int} {k : Nat} (h : n ≤ k) (h2 : sm n z most k = 0) : smP n z most k = true := by
  unfold smP; simp [h, h2]
def smR (P : Nat → Bool) : Nat × Int := if firstTo P 61 < 61 then (firstTo P 61, 0) else (0, 5)
theorem smR_at {P : Nat → Bool} {k : Nat} (h : (k : Int) ≤ 60) (hno : ∀ i, i < k → P i = false) (hy : P k = true) : smR P = (k, 0) := by
  have h' : k < 61 := by omega
  unfold smR; rw [firstTo_eq (Nat.le_of_lt h') hno (fun _ => hy), if_pos h']
theorem smR_full {P : Nat → Bool} {k : Nat} (h : (60 : Int) ≤ k) (hno : ∀ i, i < k → P i = false) (hy : P k = false) : smR P = (0, 5) := by
  unfold smR
  rw [firstTo_eq (k := 61) (Nat.le_refl _) (fun i hi => by
    rcases (show i < k ∨ i = k by omega) with h | h
    · exact hno i h
    · rw [h]; exact hy) (fun h => absurd h (Nat.lt_irrefl _)), if_neg (Nat.lt_irrefl _)]
theorem smR_le (P : Nat → Bool) : (smR P).1 ≤ 61 := by
  unfold smR
  have h := firstTo_le P 61
  generalize firstTo P 61 = x at *
  split
  · exact h
  · exact Nat.zero_le _
attribute [irreducible] smP smR
def smooth (n : Nat) (z : Nat → Int) (most : Int) : Nat × Int := if askCode (vArr n z) (inB most 1 1000) = 0 then smR (smP n z most) else (0, askCode (vArr n z) (inB most 1 1000))
theorem smooth_no {n : Nat} {z : Nat → Int} {most c : Int} (h : askCode (vArr n z) (inB most 1 1000) = c) (hc : c = 1 ∨ c = 2) : smooth n z most = (0, c) := by unfold smooth; rw [h, if_neg (by omega)]
theorem smooth_yes {n : Nat} {z : Nat → Int} {most : Int} (h : askCode (vArr n z) (inB most 1 1000) = 0) : smooth n z most = smR (smP n z most) := by unfold smooth; rw [if_pos h]
theorem smooth_le (n : Nat) (z : Nat → Int) (most : Int) : (smooth n z most).1 ≤ 17592186044416 := by
  unfold smooth
  have := smR_le (smP n z most)
  split
  · omega
  · simp
attribute [irreducible] smooth
def SmPost (n : Nat) (z : Nat → Int) (most : Int) (r : Nat × Int) (W : World) (e : Ending) (W' : World) : Prop :=
  ∃ g, e = .returned (.tuple #[g, .int .i64 r.2]) ∧ Below W.heap.size W W' ∧ Out W' W.heap.size 2 1 g r.1 (ic (smO n z most))

set_option maxHeartbeats 1000000 in
theorem i_SmoothArrivals (v : Value) (n : Nat) (z : Nat → Int) (most : Int) (W : World) (hs : Sl W v 1 n (ic z)) : Calls Try.prog 15 #[v, .int .i64 most] W (SmPost n z most (smooth n z most) W) := by
  obtain ⟨i0, hi, hz0, hz1, hz2⟩ := info_parts infoInt
  have HA := Lib.hid (fun w => i_arriving v n z (inB most 1 1000) w)
  have HS := hs
  obtain ⟨hn, ao, cap, rfl, hr⟩ := hs
  rcases ask_cases (vArr n z) (inB most 1 1000) with ⟨c, hc, hc1, -⟩ | ⟨hv, hb, hc⟩
  · have hq := smooth_no hc hc1
    rw [hq]
    rw [hc] at HA
    clear hc hq hr
    unfold SmPost
    cases h1 : inB most 1 1000
    all_goals
      rw [h1] at HA
      rcases hc1 with rfl | rfl
      all_goals
        go_enter Try.func15, Try.ntmps15
        go_wp2_with (first | (go_at_call 42; refine (i_within _ _ _ _).mono ?_; rintro e w' ⟨rfl, rfl⟩) | (go_at_call 41; refine (HA.out _ HS).mono ?_; rintro e w1 ⟨rfl, hb1⟩))
        refine bodyPost_ret (results_tmp2 rfl _ _ _) rfl ⟨_, rfl, hb1, Out.nil _ _ _ _ _⟩
  · rw [smooth_yes hc]
    rw [hc] at HA
    rw [hb] at HA
    clear hc
    have b1 := inB_out hb
    obtain ⟨n1, n2, HZ⟩ := vArr_out hv
    have HB := Lib.hid (sm_bd (n := n) HZ b1.1)
    have HZ := Lib.hid HZ
    have HI := Lib.hid (fun k => sm_in (n := n) (z := z) (most := most) (k := k))
    have HO := Lib.hid (fun k => sm_out (n := n) (z := z) (most := most) (k := k))
    have H0 := Lib.hid (sm_zero n z most)
    have HPN := Lib.hid (fun k => smP_no (n := n) (z := z) (most := most) (k := k))
    have HPY := Lib.hid (fun k => smP_yes (n := n) (z := z) (most := most) (k := k))
    unfold SmPost
    generalize smP n z most = P at *
    generalize sm n z most = s at *
    generalize smO n z most = o at *
    have HRA := Lib.hid (fun k => smR_at (P := P) (k := k))
    have HRF := Lib.hid (fun k => smR_full (P := P) (k := k))
    generalize smR P = R at *
    clear hv
    rcases hr with h0 | ⟨g, off, rfl, hr⟩
    · exact absurd n1 (by omega)
    go_enter Try.func15, Try.ntmps15
    go_wp2_with (first | (go_at_call 42; refine (i_within _ _ _ _).mono ?_; rintro e w' ⟨rfl, rfl⟩) | (go_at_call 41; refine (HA.out _ HS).mono ?_; rintro e w1 ⟨rfl, hb1⟩))
    clear hb
    go_loopw [7, 8, 9] (fun v l i wr => ∃ (k : Nat) (u : Value), (k : Int) ≤ 60 ∧ i = .int .i64 k ∧ u = v ∧ l = .int .i64 (s k) ∧ Hid (∀ i, i < k → P i = false) ∧ Below W.heap.size W wr ∧ Out wr W.heap.size 2 1 u k (ic o)) (fun _ _ i _ => (61 - intOf i).toNat)
    case atStart => exact ⟨0, _, by omega, rfl, rfl, by rw [H0.out], fun i hi => absurd hi (by omega), hb1, Out.nil _ _ _ _ _⟩
    case round =>
      obtain ⟨k, u, hk, rfl, rfl, rfl, hno, hb, hown⟩ := hrel
      have B := HB.out k
      by_cases hlt : k < n
      · have hs0 := (hr.kept hb).cell (i := k) (by omega)
        have hzk := HZ.out k hlt
        have hP := HPN.out k (.inl hlt)
        have hN2 : Hid (∀ i, i < k + 1 → P i = false) := fun i hi => by
          by_cases e : i = k
          · rw [e]; exact hP
          · exact hno.out i (by omega)
        obtain ⟨h1, h2⟩ := HI.out k hlt
        have h1 := Lib.hid h1
        have h2 := Lib.hid h2
        have hk60 : (k : Int) < 60 := by omega
        clear hr hP H0
        simp only [ic] at hs0
        go_wp2_with (at_builtin; refine wpList_append_own _ rfl _ _ 22 rfl _ 2 i0 _ 1 8 Try.underlying22 hi hz0 hz1 hz2 rfl (by decide) _ _ _ rfl ((hown).row.alloc _) ⟨wr.heap.size, 0, none⟩ 1 1 _ (by rfl) (by rfl) (laid_at (by simp)) (by intro u hu; simp at hu; first | (rcases hu with rfl | rfl <;> rfl) | (subst hu; rfl)) (by simp only [maxLen]; omega) (by omega) (by have hbs := hb.size; simp at hbs ⊢; omega) ?_; intro v1 w1 hown1 hgrow1 _)
        have R1 : Hid (Out w1 W.heap.size 2 1 v1 (k + 1) (ic o)) := Out.snoc1 hown1 (by simp only [ic]; rw [h1.out])
        have R2 := below_of_append hb hown.row hgrow1
        clear hown hown1 hgrow1 hb
        try go_wp2
        go_roundw
        case rel => exact ⟨k + 1, _, by omega, by go_num, rfl, by rw [h2.out], hN2, R2, R1.out⟩
        case measure => simp [intOf]; omega
      · have hge : n ≤ k := by omega
        rcases (show s k = 0 ∨ 0 < s k by omega) with h0 | h0
        · have hR := Lib.hid (HRA.out k hk hno.out (HPY.out k hge h0))
          have h0' : s k ≤ 0 := by omega
          clear h0 hr
          go_wp2
          refine bodyPost_ret (results_tmp2 rfl _ _ _) rfl ⟨_, by rw [hR.out]; rfl, hb, by rw [hR.out]; exact hown⟩
        · have hP := HPN.out k (.inr h0)
          rcases (show (k : Int) < 60 ∨ (60 : Int) ≤ k by omega) with h6 | h6
          · have hN2 : Hid (∀ i, i < k + 1 → P i = false) := fun i hi => by
              by_cases e : i = k
              · rw [e]; exact hP
              · exact hno.out i (by omega)
            obtain ⟨h1, h2⟩ := HO.out k hge
            have h1 := Lib.hid h1
            have h2 := Lib.hid h2
            clear hr hP H0
            go_wp2_with ((at_builtin; refine wpList_append_own _ rfl _ _ 22 rfl _ 2 i0 _ 1 8 Try.underlying22 hi hz0 hz1 hz2 rfl (by decide) _ _ _ rfl ((hown).row.alloc _) ⟨wr.heap.size, 0, none⟩ 1 1 _ (by rfl) (by rfl) (laid_at (by simp)) (by intro u hu; simp at hu; first | (rcases hu with rfl | rfl <;> rfl) | (subst hu; rfl)) (by simp only [maxLen]; omega) (by omega) (by have hbs := hb.size; simp at hbs ⊢; omega) ?_; intro v1 w1 hown1 hgrow1 _))
            have R1 : Hid (Out w1 W.heap.size 2 1 v1 (k + 1) (ic o)) := Out.snoc1 hown1 (by simp only [ic]; rw [h1.out])
            have R2 := below_of_append hb hown.row hgrow1
            clear hown hown1 hgrow1 hb
            try go_wp2
            go_roundw
            case rel => exact ⟨k + 1, _, by omega, by go_num, rfl, by rw [h2.out], hN2, R2, R1.out⟩
            case measure => simp [intOf]; omega
          · have hR := Lib.hid (HRF.out k h6 hno.out hP)
            clear hr hP
            go_wp2
            refine bodyPost_ret (results_tmp2 rfl _ _ _) rfl ⟨_, by rw [hR.out]; rfl, hb, by rw [hR.out]; exact Out.nil _ _ _ _ _⟩

theorem Out.isSlice {w : World} {B k n : Nat} {e : TypeId} {v : Value} {f : Nat → Value} (h : Out w B e k v n f) : ∃ ao cap, v = .slice ao n cap := by
  rcases h.2 with ⟨h1, h2⟩ | ⟨g, cap, cur, h1, _⟩
  · exact ⟨none, 0, by rw [h1, h2]⟩
  · exact ⟨_, _, h1⟩

set_option maxHeartbeats 1000000 in
theorem s_SmoothArrivals (v : Value) (n : Nat) (z : Nat → Int) (most : Int) (W : World) (hs : Sl W v 1 n (ic z)) : Calls Try.prog 13 #[v, .int .i64 most] W (SmPost n z most (smooth n z most) W) := by
  obtain ⟨i0, hi, hz0, hz1, hz2⟩ := info_parts infoInt
  have HA := Lib.hid (fun w => s_l20Ok v n z w)
  have HS := hs
  obtain ⟨hn, ao, cap, rfl, hr⟩ := hs
  rcases ask_cases (vArr n z) (inB most 1 1000) with ⟨c, hc, hc1, -⟩ | ⟨hv, hb, hc⟩
  · have hq := smooth_no hc hc1
    rw [hq]
    clear hq hr
    unfold SmPost
    cases h2 : vArr n z <;> cases h1 : inB most 1 1000
    case true.true => rw [h1, h2] at hc; exact absurd (show (0 : Int) = c from hc) (by omega)
    all_goals
      rw [h1, h2] at hc
      rw [h2] at HA
      have hc := Lib.hid (show _ = c from hc)
      clear hc1
      go_enter Try.func13, Try.ntmps13
      go_wp2_with (first | (go_at_call 39; refine (s_l20Seats _ _).mono ?_; rintro e w' ⟨rfl, rfl⟩) | (go_at_call 38; refine (HA.out _ HS).mono ?_; rintro e w1 ⟨rfl, hb1⟩))
      refine bodyPost_ret (results_tmp2 rfl _ _ _) rfl ⟨_, by rw [← hc.out]; rfl, hb1, Out.nil _ _ _ _ _⟩
  · rw [smooth_yes hc]
    rw [hv] at HA
    clear hc
    have b1 := inB_out hb
    obtain ⟨n1, n2, HZ⟩ := vArr_out hv
    have HB := Lib.hid (sm_bd (n := n) HZ b1.1)
    have HZ := Lib.hid HZ
    have HI := Lib.hid (fun k => sm_in (n := n) (z := z) (most := most) (k := k))
    have HO := Lib.hid (fun k => sm_out (n := n) (z := z) (most := most) (k := k))
    have H0 := Lib.hid (sm_zero n z most)
    have HPN := Lib.hid (fun k => smP_no (n := n) (z := z) (most := most) (k := k))
    have HPY := Lib.hid (fun k => smP_yes (n := n) (z := z) (most := most) (k := k))
    unfold SmPost
    generalize smP n z most = P at *
    generalize sm n z most = s at *
    generalize smO n z most = o at *
    have HRA := Lib.hid (fun k => smR_at (P := P) (k := k))
    have HRF := Lib.hid (fun k => smR_full (P := P) (k := k))
    generalize smR P = R at *
    clear hv
    rcases hr with h0 | ⟨g, off, rfl, hr⟩
    · exact absurd n1 (by omega)
    go_enter Try.func13, Try.ntmps13
    go_wp2_with (first | (go_at_call 39; refine (s_l20Seats _ _).mono ?_; rintro e w' ⟨rfl, rfl⟩) | (go_at_call 38; refine (HA.out _ HS).mono ?_; rintro e w1 ⟨rfl, hb1⟩))
    clear hb
    go_loopw [6, 7, 8] (fun v l i wr => ∃ (k : Nat) (u : Value), (k : Int) ≤ 60 ∧ i = .int .i64 k ∧ u = v ∧ l = .int .i64 (s k) ∧ Hid (∀ i, i < k → P i = false) ∧ Below W.heap.size W wr ∧ Out wr W.heap.size 2 1 u k (ic o)) (fun _ _ i _ => (61 - intOf i).toNat)
    case atStart => exact ⟨0, _, by omega, rfl, rfl, by rw [H0.out], fun i hi => absurd hi (by omega), (by repeat (first | assumption | exact Below.refl _ _ | refine kept_drew ?_ | refine kept_drewN ?_ _ | refine kept_alloc ?_ _ | refine kept_set ?_ ?_ _ | (simp; done) | (simp; omega) | refine kept_trans ?_ (by assumption))), Out.empty _ _ _ _ _ hb1.size⟩
    case round =>
      obtain ⟨k, u, hk, rfl, rfl, rfl, hno, hb, hown⟩ := hrel
      obtain ⟨ao2, cap2, rfl⟩ := hown.isSlice
      have B := HB.out k
      by_cases hlt : k < n
      · have hs0 := (hr.kept hb).cell (i := k) (by omega)
        have hzk := HZ.out k hlt
        have hP := HPN.out k (.inl hlt)
        have hN2 : Hid (∀ i, i < k + 1 → P i = false) := fun i hi => by
          by_cases e : i = k
          · rw [e]; exact hP
          · exact hno.out i (by omega)
        obtain ⟨h1, h2⟩ := HI.out k hlt
        rw [← min_if] at h1 h2
        rw [Int.min_comm] at h1 h2
        have h1 := Lib.hid h1
        have h2 := Lib.hid h2
        have hk60 : (k : Int) < 60 := by omega
        have hk61 : (k == 60) = false := by simp; omega
        clear hr hP H0
        simp only [ic] at hs0
        go_wp2_with (first | (go_at_call 40; refine (s_l00Min _ _ _).mono ?_; rintro e w' ⟨rfl, rfl⟩) | (at_builtin; refine wpList_append_own _ rfl _ _ 22 rfl _ 2 i0 _ 1 8 Try.underlying22 hi hz0 hz1 hz2 rfl (by decide) _ _ _ rfl ((hown).row.alloc _) ⟨wr.heap.size, 0, none⟩ 1 1 _ (by rfl) (by rfl) (laid_at (by simp)) (by intro u hu; simp at hu; first | (rcases hu with rfl | rfl <;> rfl) | (subst hu; rfl)) (by simp only [maxLen]; omega) (by omega) (by have hbs := hb.size; simp at hbs ⊢; omega) ?_; intro v1 w1 hown1 hgrow1 _))
        have R1 : Hid (Out w1 W.heap.size 2 1 v1 (k + 1) (ic o)) := Out.snoc1 hown1 (by simp only [ic]; rw [h1.out]; congr 1; omega)
        have R2 := below_of_append hb hown.row hgrow1
        clear hown hown1 hgrow1 hb
        try go_wp2
        go_roundw
        case rel => exact ⟨k + 1, _, by omega, by go_num, rfl, by rw [h2.out]; congr 1; omega, hN2, R2, R1.out⟩
        case measure => simp [intOf]; omega
      · have hge : n ≤ k := by omega
        rcases (show s k = 0 ∨ 0 < s k by omega) with h0 | h0
        · have hR := Lib.hid (HRA.out k hk hno.out (HPY.out k hge h0))
          have h0' : s k ≤ 0 := by omega
          clear h0 hr
          go_wp2
          refine bodyPost_ret (results_tmp2 rfl _ _ _) rfl ⟨_, by rw [hR.out]; rfl, hb, by rw [hR.out]; exact hown⟩
        · have hP := HPN.out k (.inr h0)
          rcases (show (k : Int) < 60 ∨ (60 : Int) ≤ k by omega) with h6 | h6
          · have hN2 : Hid (∀ i, i < k + 1 → P i = false) := fun i hi => by
              by_cases e : i = k
              · rw [e]; exact hP
              · exact hno.out i (by omega)
            obtain ⟨h1, h2⟩ := HO.out k hge
            rw [← min_if] at h1 h2
            rw [Int.min_comm] at h1 h2
            have h1 := Lib.hid h1
            have h2 := Lib.hid h2
            have hk61 : (k == 60) = false := by simp; omega
            clear hr hP H0
            go_wp2_with (first | (go_at_call 40; refine (s_l00Min _ _ _).mono ?_; rintro e w' ⟨rfl, rfl⟩) | (at_builtin; refine wpList_append_own _ rfl _ _ 22 rfl _ 2 i0 _ 1 8 Try.underlying22 hi hz0 hz1 hz2 rfl (by decide) _ _ _ rfl ((hown).row.alloc _) ⟨wr.heap.size, 0, none⟩ 1 1 _ (by rfl) (by rfl) (laid_at (by simp)) (by intro u hu; simp at hu; first | (rcases hu with rfl | rfl <;> rfl) | (subst hu; rfl)) (by simp only [maxLen]; omega) (by omega) (by have hbs := hb.size; simp at hbs ⊢; omega) ?_; intro v1 w1 hown1 hgrow1 _))
            have R1 : Hid (Out w1 W.heap.size 2 1 v1 (k + 1) (ic o)) := Out.snoc1 hown1 (by simp only [ic]; rw [h1.out]; congr 1; omega)
            have R2 := below_of_append hb hown.row hgrow1
            clear hown hown1 hgrow1 hb
            try go_wp2
            go_roundw
            case rel => exact ⟨k + 1, _, by omega, by go_num, rfl, by rw [h2.out]; congr 1; omega, hN2, R2, R1.out⟩
            case measure => simp [intOf]; omega
          · have hR := Lib.hid (HRF.out k h6 hno.out hP)
            have hk61 : (k == 60) = true := by simp; omega
            clear hr hP
            go_wp2
            refine bodyPost_ret (results_tmp2 rfl _ _ _) rfl ⟨_, by rw [hR.out]; rfl, hb, by rw [hR.out]; exact Out.nil _ _ _ _ _⟩

theorem l_SmoothArrivals {W : World} (v : Value) (n : Nat) (z : Nat → Int) (hs : Sl W v 1 n (ic z)) (_hz : ∀ i, i < n → -9223372036854775808 ≤ z i ∧ z i ≤ 9223372036854775807) (most : Int) : Calls Try.prog 3 #[v, .int .i64 most] W (Truly W) :=
  l_SmoothArrivals_of v n z most hs _ _ (smooth_le n z most) _ (fun w q h => s_SmoothArrivals q n z most w h) (fun w q h => i_SmoothArrivals q n z most w h)

end Go.Proofs.Ytobpeiimiglknaa
