/- How long a person waits, how many rides there are: the program, the reference, the laws. -/
import Derived.Test.YtobpeiimiglknaaWaitS
import Derived.Test.YtobpeiimiglknaaQLaws
namespace Go.Proofs.Ytobpeiimiglknaa
open Go.RowKit Go.Deep
set_option linter.unusedVariables false
set_option maxRecDepth 100000

theorem serve_of {n : Nat} {z : Nat → Int} {ev se : Int} (hv : vArr n z = true) (h1 : inB ev 1 60 = true) (h2 : inB se 1 1000 = true) :
    ∃ (e s T M : Nat) (C S : Nat → Nat) (wt cw : Nat → Int) (R : Int), ev = e ∧ se = s ∧ 1 ≤ e ∧ e ≤ 60 ∧ 1 ≤ s ∧ s ≤ 1000 ∧ Hid (Serve n z e s T M C S wt cw R) ∧ T ≤ 6000000 ∧ M ≤ 1000000000 ∧ Hid ((T : Int) = sumTo z n) ∧ T = cmN n z n ∧ Hid (wt = wtN n z ev.toNat se.toNat) ∧ Hid (R = rdN n z ev.toNat se.toNat) ∧ n ≤ 60 ∧ 1 ≤ n ∧ Hid (∀ i, i < n → 0 ≤ z i ∧ z i ≤ 1000) := by
  have b1 := inB_out h1
  have b2 := inB_out h2
  obtain ⟨n1, n2, HZ⟩ := vArr_out hv
  have hs := cmN_sum (fun i hi => (HZ i hi).1) n (Nat.le_refl _)
  have hb := (sumTo_bd (z := z) (n := n) (fun i hi => by have := HZ i hi; omega) n (Nat.le_refl _)).2
  have hT : cmN n z n ≤ 6000000 := by omega
  have hM : bdN n z ev.toNat ≤ 1000000000 := by
    unfold bdN
    have : ev.toNat * cmN n z n ≤ 60 * 6000000 := Nat.mul_le_mul (by omega) hT
    omega
  exact ⟨ev.toNat, se.toNat, _, _, _, _, _, _, _, by omega, by omega, by omega, by omega, by omega, by omega, serve_mk (fun i hi => (HZ i hi).1) (by omega) (by omega), hT, hM, hs, rfl, rfl, rfl, n2, n1, HZ⟩

theorem and3_parts (a b c : Bool) : (a = false ∧ Hid ((a && b && c) = false)) ∨ (a = true ∧ b = false ∧ Hid ((a && b && c) = false)) ∨ (a = true ∧ b = true ∧ c = false ∧ Hid ((a && b && c) = false)) ∨ (a = true ∧ b = true ∧ c = true ∧ Hid ((a && b && c) = true)) := by
  cases a
  · exact .inl ⟨rfl, rfl⟩
  · cases b
    · exact .inr (.inl ⟨rfl, rfl, rfl⟩)
    · cases c
      · exact .inr (.inr (.inl ⟨rfl, rfl, rfl, rfl⟩))
      · exact .inr (.inr (.inr ⟨rfl, rfl, rfl, rfl⟩))

/-- The rides until all are gone, and the code. -/
def rcR (n : Nat) (z : Nat → Int) (ev se : Int) : Int × Int := if askCode (vArr n z) (inB ev 1 60 && inB se 1 1000) = 0 then (rdN n z ev.toNat se.toNat, 0) else (0, askCode (vArr n z) (inB ev 1 60 && inB se 1 1000))
theorem rcR_no {n : Nat} {z : Nat → Int} {ev se c : Int} (h : askCode (vArr n z) (inB ev 1 60 && inB se 1 1000) = c) (hc : c = 1 ∨ c = 2) : rcR n z ev se = (0, c) := by unfold rcR; rw [h, if_neg (by omega)]
theorem rcR_yes {n : Nat} {z : Nat → Int} {ev se : Int} (h : askCode (vArr n z) (inB ev 1 60 && inB se 1 1000) = 0) : rcR n z ev se = (rdN n z ev.toNat se.toNat, 0) := by unfold rcR; rw [if_pos h]
/-- The wait of one person, and the code. -/
def wpR (n : Nat) (z : Nat → Int) (ev se pe : Int) : Int × Int :=
  if askCode (vArr n z) (inB ev 1 60 && inB se 1 1000 && inB pe 0 100000) = 0 then (if pe < (cmN n z n : Int) then (wtN n z ev.toNat se.toNat pe.toNat, 0) else (0, 3)) else (0, askCode (vArr n z) (inB ev 1 60 && inB se 1 1000 && inB pe 0 100000))
section
variable {n : Nat} {z : Nat → Int} {ev se pe c : Int}
theorem wpR_no (h : askCode (vArr n z) (inB ev 1 60 && inB se 1 1000 && inB pe 0 100000) = c) (hc : c = 1 ∨ c = 2) : wpR n z ev se pe = (0, c) := by unfold wpR; rw [h, if_neg (by omega)]
theorem wpR_no1 (h : askCode (vArr n z) (inB ev 1 60 && inB se 1 1000) = c) (hc : c = 1 ∨ c = 2) : wpR n z ev se pe = (0, c) := by
  refine wpR_no ?_ hc
  rw [← h]
  cases hv : vArr n z
  · rfl
  · cases hb : (inB ev 1 60 && inB se 1 1000)
    · rfl
    · rw [hv, hb] at h; simp [askCode] at h; omega
theorem wpR_no2 (hv : vArr n z = true) (hb : inB pe 0 100000 = false) : wpR n z ev se pe = (0, 2) := wpR_no (by rw [hv, hb]; simp [askCode]) (.inr rfl)
theorem wpR_far (h : askCode (vArr n z) (inB ev 1 60 && inB se 1 1000 && inB pe 0 100000) = 0) (hp : (cmN n z n : Int) ≤ pe) : wpR n z ev se pe = (0, 3) := by unfold wpR; rw [if_pos h, if_neg (by omega)]
theorem wpR_in (h : askCode (vArr n z) (inB ev 1 60 && inB se 1 1000 && inB pe 0 100000) = 0) (hp : pe < (cmN n z n : Int)) : wpR n z ev se pe = (wtN n z ev.toNat se.toNat pe.toNat, 0) := by unfold wpR; rw [if_pos h, if_pos hp]
end
attribute [irreducible] rcR wpR

theorem i_RidesToClear (v : Value) (n : Nat) (z : Nat → Int) (ev se : Int) (W : World) (hs : Sl W v 1 n (ic z)) : Calls Try.prog 22 #[v, .int .i64 ev, .int .i64 se] W fun e W' => e = .returned (.tuple #[.int .i64 (rcR n z ev se).1, .int .i64 (rcR n z ev se).2]) ∧ Below W.heap.size W W' := by
  have HA := Lib.hid (fun w => i_arriving v n z (inB ev 1 60 && inB se 1 1000) w)
  have HS := hs
  obtain ⟨hn, ao, cap, rfl, hr⟩ := hs
  clear hr
  rcases ask_cases (vArr n z) (inB ev 1 60 && inB se 1 1000) with ⟨c, hc, hc1, -⟩ | ⟨hv, hb, hc⟩
  · rw [rcR_no hc hc1]
    rw [hc] at HA
    clear hc
    rcases and2_cases (inB ev 1 60) (inB se 1 1000) with ⟨h1, HV⟩ | ⟨h1, h2, HV⟩ | ⟨h1, h2, HV⟩
    all_goals
      rw [HV.out] at HA
      rcases hc1 with rfl | rfl
      all_goals
        go_enter Try.func22, Try.ntmps22
        go_wp2_with (first | (go_at_call 45; refine (i_isEvery _ _).mono ?_; rintro e w' ⟨rfl, rfl⟩) | (go_at_call 46; refine (i_isSeats _ _).mono ?_; rintro e w' ⟨rfl, rfl⟩) | (go_at_call 41; refine (HA.out _ HS).mono ?_; rintro e w1 ⟨rfl, hb1⟩))
        refine bodyPost_ret (results_tmp2 rfl _ _ _) rfl ⟨rfl, hb1⟩
  · rw [rcR_yes hc]
    rw [hc, hb] at HA
    clear hc
    rw [Bool.and_eq_true] at hb
    obtain ⟨h1, h2⟩ := hb
    obtain ⟨e, s, T, M, C, S, wt, cw, R, rfl, rfl, e1, e2, s1, s2, HSV, hT, hM, HST, -, -, HR, n60, n1, HZ⟩ := serve_of hv h1 h2
    rw [← HR.out]
    have HT : Hid (∀ w, Sl w (.slice ao n cap) 1 n (ic z) → Calls Try.prog 55 #[.slice ao n cap] w fun e W' => e = .returned (.int .i64 T) ∧ w = W') := fun w h => by
      rw [HST.out]; exact i_total _ n z w h (by omega) (fun i hi => by have := HZ.out i hi; omega)
    have HW := Lib.hid (fun w h => i_waits (.slice ao n cap) n z e s T M C S wt cw R w h n60 HZ e1 e2 s1 s2 HT HSV hT hM)
    clear HT HSV HST HR
    go_enter Try.func22, Try.ntmps22
    go_wp2_with (first | (go_at_call 45; refine (i_isEvery _ _).mono ?_; rintro e w' ⟨rfl, rfl⟩) | (go_at_call 46; refine (i_isSeats _ _).mono ?_; rintro e w' ⟨rfl, rfl⟩) | (go_at_call 49; refine (HW.out _ (HS.kept hb1)).mono ?_; rintro e w2 ⟨g, rfl, hb2, ho⟩) | (go_at_call 41; refine (HA.out _ HS).mono ?_; rintro e w1 ⟨rfl, hb1⟩))
    refine bodyPost_ret (results_tmp2 rfl _ _ _) rfl ⟨rfl, kept_trans hb1 hb2⟩

set_option maxHeartbeats 1600000 in
theorem i_WaitOfPerson (v : Value) (n : Nat) (z : Nat → Int) (ev se pe : Int) (W : World) (hs : Sl W v 1 n (ic z)) : Calls Try.prog 24 #[v, .int .i64 ev, .int .i64 se, .int .i64 pe] W fun e W' => e = .returned (.tuple #[.int .i64 (wpR n z ev se pe).1, .int .i64 (wpR n z ev se pe).2]) ∧ Below W.heap.size W W' := by
  have HA := Lib.hid (fun w => i_arriving v n z (inB ev 1 60 && inB se 1 1000 && inB pe 0 100000) w)
  have HS := hs
  obtain ⟨hn, ao, cap, rfl, hr⟩ := hs
  clear hr
  rcases ask_cases (vArr n z) (inB ev 1 60 && inB se 1 1000 && inB pe 0 100000) with ⟨c, hc, hc1, -⟩ | ⟨hv, hb, hc⟩
  · rw [wpR_no hc hc1]
    rw [hc] at HA
    clear hc
    rcases and3_parts (inB ev 1 60) (inB se 1 1000) (inB pe 0 100000) with ⟨h1, HV⟩ | ⟨h1, h2, HV⟩ | ⟨h1, h2, h3, HV⟩ | ⟨h1, h2, h3, HV⟩
    all_goals
      rw [HV.out] at HA
      rcases hc1 with rfl | rfl
      all_goals
        go_enter Try.func24, Try.ntmps24
        go_wp2_with (first | (go_at_call 45; refine (i_isEvery _ _).mono ?_; rintro e w' ⟨rfl, rfl⟩) | (go_at_call 46; refine (i_isSeats _ _).mono ?_; rintro e w' ⟨rfl, rfl⟩) | (go_at_call 53; refine (i_isQueue _ _).mono ?_; rintro e w' ⟨rfl, rfl⟩) | (go_at_call 41; refine (HA.out _ HS).mono ?_; rintro e w1 ⟨rfl, hb1⟩))
        refine bodyPost_ret (results_tmp2 rfl _ _ _) rfl ⟨rfl, hb1⟩
  · have HC := Lib.hid hc
    rw [hc, hb] at HA
    clear hc
    simp only [Bool.and_eq_true] at hb
    obtain ⟨⟨h1, h2⟩, h3⟩ := hb
    have hp := inB_out h3
    obtain ⟨e, s, T, M, C, S, wt, cw, R, rfl, rfl, e1, e2, s1, s2, HSV, hT, hM, HST, hTc, HWT, -, n60, n1, HZ⟩ := serve_of hv h1 h2
    have HT : Hid (∀ w, Sl w (.slice ao n cap) 1 n (ic z) → Calls Try.prog 55 #[.slice ao n cap] w fun e W' => e = .returned (.int .i64 T) ∧ w = W') := fun w h => by
      rw [HST.out]; exact i_total _ n z w h (by omega) (fun i hi => by have := HZ.out i hi; omega)
    have HW := Lib.hid (fun w h => i_waits (.slice ao n cap) n z e s T M C S wt cw R w h n60 HZ e1 e2 s1 s2 HT HSV hT hM)
    obtain ⟨pp, rfl⟩ : ∃ pp : Nat, pe = (pp : Int) := ⟨pe.toNat, by omega⟩
    by_cases hpt : pp < T
    · have HF := Lib.hid (wpR_in HC.out (by omega))
      rw [← HWT.out, Int.toNat_natCast] at HF
      rw [HF.out]
      have hpt' : ((pp : Nat) : Int) < (T : Int) := by omega
      clear HT HSV HST hTc hv
      go_enter Try.func24, Try.ntmps24
      go_wp2_with (first | (go_at_call 45; refine (i_isEvery _ _).mono ?_; rintro e w' ⟨rfl, rfl⟩) | (go_at_call 46; refine (i_isSeats _ _).mono ?_; rintro e w' ⟨rfl, rfl⟩) | (go_at_call 53; refine (i_isQueue _ _).mono ?_; rintro e w' ⟨rfl, rfl⟩) | (go_at_call 49; refine (HW.out _ (HS.kept hb1)).mono ?_; rintro e w2 ⟨g, rfl, hb2, ho⟩; obtain ⟨gg, gcap, rfl, -, hrow⟩ := ho.opened (by omega); have hcell := hrow.cell (i := pp) (by omega); simp only [ic, Nat.zero_add] at hcell; clear hrow ho) | (go_at_call 54; refine (i_size_int _ _ _ _ ?_).mono ?_; (omega); rintro e w' ⟨rfl, rfl⟩) | (go_at_call 41; refine (HA.out _ HS).mono ?_; rintro e w1 ⟨rfl, hb1⟩))
      refine bodyPost_ret (results_tmp2 rfl _ _ _) rfl ⟨rfl, kept_trans hb1 hb2⟩
    · have HF := Lib.hid (wpR_far HC.out (by omega))
      rw [HF.out]
      have hpt' : ¬ ((pp : Nat) : Int) < (T : Int) := by omega
      clear HT HSV HST hTc hv
      go_enter Try.func24, Try.ntmps24
      go_wp2_with (first | (go_at_call 45; refine (i_isEvery _ _).mono ?_; rintro e w' ⟨rfl, rfl⟩) | (go_at_call 46; refine (i_isSeats _ _).mono ?_; rintro e w' ⟨rfl, rfl⟩) | (go_at_call 53; refine (i_isQueue _ _).mono ?_; rintro e w' ⟨rfl, rfl⟩) | (go_at_call 49; refine (HW.out _ (HS.kept hb1)).mono ?_; rintro e w2 ⟨g, rfl, hb2, ho⟩; obtain ⟨gg, gcap, rfl⟩ := ho.form; clear ho) | (go_at_call 54; refine (i_size_int _ _ _ _ ?_).mono ?_; (omega); rintro e w' ⟨rfl, rfl⟩) | (go_at_call 41; refine (HA.out _ HS).mono ?_; rintro e w1 ⟨rfl, hb1⟩))
      refine bodyPost_ret (results_tmp2 rfl _ _ _) rfl ⟨rfl, kept_trans hb1 hb2⟩

set_option maxHeartbeats 1600000 in
theorem s_WaitOfPerson (v : Value) (n : Nat) (z : Nat → Int) (ev se pe : Int) (W : World) (hs : Sl W v 1 n (ic z)) : Calls Try.prog 23 #[v, .int .i64 ev, .int .i64 se, .int .i64 pe] W fun e W' => e = .returned (.tuple #[.int .i64 (wpR n z ev se pe).1, .int .i64 (wpR n z ev se pe).2]) ∧ Below W.heap.size W W' := by
  have HA := Lib.hid (fun w => s_l20Ask v n z ev se w)
  have HS := hs
  obtain ⟨hn, ao, cap, rfl, hr⟩ := hs
  clear hr
  rcases ask_cases (vArr n z) (inB ev 1 60 && inB se 1 1000) with ⟨c, hc, hc1, -⟩ | ⟨hv, hb, hc⟩
  · rw [wpR_no1 hc hc1]
    rw [hc] at HA
    clear hc
    rcases hc1 with rfl | rfl
    all_goals
      go_enter Try.func23, Try.ntmps23
      go_wp2_with (go_at_call 43; refine (HA.out _ HS).mono ?_; rintro e w1 ⟨rfl, hb1⟩)
      refine bodyPost_ret (results_tmp2 rfl _ _ _) rfl ⟨rfl, hb1⟩
  · rw [hc] at HA
    cases h3 : inB pe 0 100000
    · rw [wpR_no2 hv h3]
      clear hc
      go_enter Try.func23, Try.ntmps23
      go_wp2_with (first | (go_at_call 50; refine (s_l20Limit _ _).mono ?_; rintro e w' ⟨rfl, rfl⟩) | (go_at_call 43; refine (HA.out _ HS).mono ?_; rintro e w1 ⟨rfl, hb1⟩))
      refine bodyPost_ret (results_tmp2 rfl _ _ _) rfl ⟨rfl, hb1⟩
    · have HC : Hid (askCode (vArr n z) (inB ev 1 60 && inB se 1 1000 && inB pe 0 100000) = 0) := by show _ = _; rw [hv, hb, h3]; rfl
      clear hc
      simp only [Bool.and_eq_true] at hb
      obtain ⟨h1, h2⟩ := hb
      have hp := inB_out h3
      obtain ⟨e, s, T, M, C, S, wt, cw, R, rfl, rfl, e1, e2, s1, s2, HSV, hT, hM, HST, hTc, HWT, -, n60, n1, HZ⟩ := serve_of hv h1 h2
      have HT : Hid (∀ w, Sl w (.slice ao n cap) 1 n (ic z) → Calls Try.prog 51 #[.slice ao n cap] w fun e W' => e = .returned (.int .i64 T) ∧ w = W') := fun w h => by
        rw [HST.out]; exact s_l20Sum _ n z w h (by omega) (fun i hi => by have := HZ.out i hi; omega)
      have HW := Lib.hid (fun w h => s_l20Waits (.slice ao n cap) n z e s T M C S wt cw R w h n60 HZ e1 e2 s1 s2 HSV hT hM)
      obtain ⟨pp, rfl⟩ : ∃ pp : Nat, pe = (pp : Int) := ⟨pe.toNat, by omega⟩
      by_cases hpt : pp < T
      · have HF := Lib.hid (wpR_in HC.out (by omega))
        rw [← HWT.out, Int.toNat_natCast] at HF
        rw [HF.out]
        have hpt' : ((pp : Nat) : Int) < (T : Int) := by omega
        clear HSV HST hTc hv
        go_enter Try.func23, Try.ntmps23
        go_wp2_with (first | (go_at_call 50; refine (s_l20Limit _ _).mono ?_; rintro e w' ⟨rfl, rfl⟩) | (go_at_call 52; refine (HW.out _ (HS.kept hb1)).mono ?_; rintro e w2 ⟨g, rfl, hb2, ho⟩; obtain ⟨gg, gcap, rfl, -, hrow⟩ := ho.opened (by omega); have hcell := hrow.cell (i := pp) (by omega); simp only [ic, Nat.zero_add] at hcell; clear hrow ho) | (go_at_call 51; refine (HT.out _ (HS.kept hb1)).mono ?_; rintro e w' ⟨rfl, rfl⟩) | (go_at_call 43; refine (HA.out _ HS).mono ?_; rintro e w1 ⟨rfl, hb1⟩))
        refine bodyPost_ret (results_tmp2 rfl _ _ _) rfl ⟨rfl, kept_trans hb1 hb2⟩
      · have HF := Lib.hid (wpR_far HC.out (by omega))
        rw [HF.out]
        have hpt' : ¬ ((pp : Nat) : Int) < (T : Int) := by omega
        clear HSV HST hTc hv HW
        go_enter Try.func23, Try.ntmps23
        go_wp2_with (first | (go_at_call 50; refine (s_l20Limit _ _).mono ?_; rintro e w' ⟨rfl, rfl⟩) | (go_at_call 51; refine (HT.out _ (HS.kept hb1)).mono ?_; rintro e w' ⟨rfl, rfl⟩) | (go_at_call 43; refine (HA.out _ HS).mono ?_; rintro e w1 ⟨rfl, hb1⟩))
        refine bodyPost_ret (results_tmp2 rfl _ _ _) rfl ⟨rfl, hb1⟩

theorem l_WaitOfPerson {W : World} (v : Value) (n : Nat) (z : Nat → Int) (hs : Sl W v 1 n (ic z)) (ev se pe : Int) : Calls Try.prog 6 #[v, .int .i64 ev, .int .i64 se, .int .i64 pe] W (Truly W) :=
  l_WaitOfPerson_of v n z ev se pe hs _ _ (fun w u h => s_WaitOfPerson u n z ev se pe w h) (fun w u h => i_WaitOfPerson u n z ev se pe w h)

end Go.Proofs.Ytobpeiimiglknaa
