/- One ride more, and the least seats. -/
import Derived.Test.YtobpeiimiglknaaSums
namespace Go.Proofs.Ytobpeiimiglknaa
open Go.RowKit Go.Deep
set_option linter.unusedVariables false

/-- The first minute up to k at which one ride more leaves the least sum S, and that sum. -/
def exBest (S : Int → Int) : Nat → Int × Int
  | 0 => (0, 0)
  | k + 1 => if k = 0 ∨ S ((k : Int) + 1) < (exBest S k).2 then ((k : Int) + 1, S ((k : Int) + 1)) else exBest S k
theorem exBest_one (S : Int → Int) {k : Nat} (h : k = 0 ∨ S ((k : Int) + 1) < (exBest S k).2) : exBest S (k + 1) = ((k : Int) + 1, S ((k : Int) + 1)) := by simp only [exBest]; rw [if_pos h]
theorem exBest_two (S : Int → Int) {k : Nat} (h : 0 < k) (h2 : (exBest S k).2 ≤ S ((k : Int) + 1)) : exBest S (k + 1) = exBest S k := by rw [exBest]; rw [if_neg (by omega)]
theorem exBest_zero (S : Int → Int) : exBest S 0 = (0, 0) := rfl
attribute [irreducible] exBest
def exS (n : Nat) (z : Nat → Int) (ev se : Int) : Int → Int := fun m => sumTo (fun i => qu z ev se m (i + 1)) n
theorem exS_bd {n : Nat} {z : Nat → Int} {ev se : Int} (hz : ∀ i, i < n → 0 ≤ z i ∧ z i ≤ 1000) (hs : 1 ≤ se) (hn : n ≤ 60) (m : Int) : 0 ≤ exS n z ev se m ∧ exS n z ev se m ≤ 6000000 := by
  have h1 : ∀ i, i < n → 0 ≤ qu z ev se m (i + 1) ∧ qu z ev se m (i + 1) ≤ 100000 := fun i hi => by have := qu_bd (ev := ev) (ex := m) hz hs (i + 1) (by omega); omega
  have := sumTo_bd h1 n (Nat.le_refl _)
  unfold exS
  omega
attribute [irreducible] exS
def exIn (n : Nat) (z : Nat → Int) (ev se : Int) : Int × Int := if askCode (vArr n z) (inB ev 1 60 && inB se 1 1000) = 0 then exBest (exS n z ev se) n else (0, 0)
theorem exIn_no {n : Nat} {z : Nat → Int} {ev se c : Int} (h : askCode (vArr n z) (inB ev 1 60 && inB se 1 1000) = c) (hc : c = 1 ∨ c = 2) : exIn n z ev se = (0, 0) := by unfold exIn; rw [if_neg (by omega)]
theorem exIn_yes {n : Nat} {z : Nat → Int} {ev se : Int} (h : askCode (vArr n z) (inB ev 1 60 && inB se 1 1000) = 0) : exIn n z ev se = exBest (exS n z ev se) n := by unfold exIn; rw [if_pos h]
attribute [irreducible] exIn

/-- The sum of the queues, asked by two calls. -/
theorem i_sumq (v : Value) (n : Nat) (z : Nat → Int) (ev se ex : Int) (g : Value) (w : World) (B : Nat) (hn0 : n ≤ 60) (HZ : Hid (∀ i, i < n → 0 ≤ z i ∧ z i ≤ 1000)) (hse : 1 ≤ se) (ho : Out w B 2 1 g n (ic (fun i => qu z ev se ex (i + 1)))) :
    Calls Try.prog 55 #[g] w fun e W' => e = .returned (.int .i64 (exS n z ev se ex)) ∧ w = W' := by
  have h := i_total g n _ w (ho.sl (by omega)) (by omega) (fun i hi => by have := qu_bd (ev := ev) (ex := ex) HZ.out hse (i + 1) (by omega); omega)
  unfold exS; exact h
theorem s_sumq (v : Value) (n : Nat) (z : Nat → Int) (ev se ex : Int) (g : Value) (w : World) (B : Nat) (hn0 : n ≤ 60) (HZ : Hid (∀ i, i < n → 0 ≤ z i ∧ z i ≤ 1000)) (hse : 1 ≤ se) (ho : Out w B 2 1 g n (ic (fun i => qu z ev se ex (i + 1)))) :
    Calls Try.prog 51 #[g] w fun e W' => e = .returned (.int .i64 (exS n z ev se ex)) ∧ w = W' := by
  have h := s_l20Sum g n _ w (ho.sl (by omega)) (by omega) (fun i hi => by have := qu_bd (ev := ev) (ex := ex) HZ.out hse (i + 1) (by omega); omega)
  unfold exS; exact h

theorem i_ExtraRide (v : Value) (n : Nat) (z : Nat → Int) (ev se : Int) (W : World) (hs : Sl W v 1 n (ic z)) : Calls Try.prog 26 #[v, .int .i64 ev, .int .i64 se] W fun e W' => e = .returned (.tuple #[.int .i64 (exIn n z ev se).1, .int .i64 (exIn n z ev se).2, .int .i64 (askCode (vArr n z) (inB ev 1 60 && inB se 1 1000))]) ∧ Below W.heap.size W W' := by
  have HA := Lib.hid (fun w => i_arriving v n z (inB ev 1 60 && inB se 1 1000) w)
  have HQ := Lib.hid (fun w ex => i_queues v n z ev se ex w)
  have HS := hs
  have hn := hs.1
  obtain ⟨hn, ao, cap, rfl, hr⟩ := hs
  clear hr
  have hn' : (n : Int) ≤ 17592186044416 := by omega
  rcases ask_cases (vArr n z) (inB ev 1 60 && inB se 1 1000) with ⟨c, hc, hc1, -⟩ | ⟨hv, hb, hc⟩
  · have hq := Lib.hid (exIn_no hc hc1)
    rw [hq.out, hc]
    rw [hc] at HA
    clear hc hq
    rcases and2_cases (inB ev 1 60) (inB se 1 1000) with ⟨h1, HV⟩ | ⟨h1, h2, HV⟩ | ⟨h1, h2, HV⟩
    all_goals
      rw [HV.out] at HA
      rcases hc1 with rfl | rfl
      all_goals
        go_enter Try.func26, Try.ntmps26
        go_wp2_with (first | (go_at_call 45; refine (i_isEvery _ _).mono ?_; rintro e w' ⟨rfl, rfl⟩) | (go_at_call 46; refine (i_isSeats _ _).mono ?_; rintro e w' ⟨rfl, rfl⟩) | (go_at_call 41; refine (HA.out _ HS).mono ?_; rintro e w1 ⟨rfl, hb1⟩))
        go_ret3
        exact ⟨rfl, hb1⟩
  · have hx := Lib.hid (exIn_yes hc)
    rw [hx.out, hc]
    rw [hc] at HA
    rw [hb] at HA
    clear hc hx
    rw [Bool.and_eq_true] at hb
    obtain ⟨h1, h2⟩ := hb
    have b1 := inB_out h1
    have b2 := inB_out h2
    obtain ⟨n1, n2, HZ⟩ := vArr_out hv
    have HZ := Lib.hid HZ
    have HE := Lib.hid (exS_bd (ev := ev) HZ.out b2.1 n2)
    have HT := Lib.hid (fun ex g w B => i_sumq (.bool true) n z ev se ex g w B n2 HZ b2.1)
    clear hv
    generalize exS n z ev se = S at *
    have HO := Lib.hid (fun k => exBest_one S (k := k))
    have HW := Lib.hid (fun k => exBest_two S (k := k))
    have H0 := Lib.hid (exBest_zero S)
    generalize exBest S = eb at *
    go_enter Try.func26, Try.ntmps26
    go_wp2_with (first | (go_at_call 45; refine (i_isEvery _ _).mono ?_; rintro e w' ⟨rfl, rfl⟩) | (go_at_call 46; refine (i_isSeats _ _).mono ?_; rintro e w' ⟨rfl, rfl⟩) | (go_at_call 41; refine (HA.out _ HS).mono ?_; rintro e w1 ⟨rfl, hb1⟩))
    clear h1 h2
    go_loopw [10, 11, 12] (fun b l m wr => ∃ (k : Nat) (B L : Int), k ≤ n ∧ m = .int .i64 ((k : Int) + 1) ∧ b = .int .i64 B ∧ l = .int .i64 L ∧ (0 ≤ B ∧ B ≤ k ∧ (k ≤ 0 ∨ 1 ≤ B)) ∧ Hid (eb k = (B, L)) ∧ Below W.heap.size W wr) (fun _ _ m _ => n + 1 - (intOf m).toNat)
    case atStart => exact ⟨0, 0, 0, Nat.zero_le _, rfl, rfl, rfl, by omega, H0.out, hb1⟩
    case round =>
      obtain ⟨k, B, L, hk, rfl, rfl, rfl, ⟨hB0, hB1, hB2⟩, HE2, hb⟩ := hrel
      by_cases hlt : k < n
      · have hE := HE.out ((k : Int) + 1)
        have hlt' : (k : Int) + 1 ≤ n := by omega
        have hQ := Lib.hid (HQ.out wr ((k : Int) + 1) (HS.kept hb) n1 n2 HZ b1 b2)
        have HT' := Lib.hid (HT.out ((k : Int) + 1))
        clear HT HQ
        rcases (show k ≤ 0 ∨ 1 ≤ B by omega) with h0 | h0
        · have hk0 : k = 0 := by omega
          have HN : Hid (eb (k + 1) = ((k : Int) + 1, S ((k : Int) + 1))) := HO.out k (.inl hk0)
          have hB : B = 0 := by omega
          clear HO HW H0 hk0
          subst hB
          go_wp2_with (first | (go_at_call 54; refine (i_size_int _ _ _ _ ?_).mono ?_; (omega); rintro e w' ⟨rfl, rfl⟩) | (go_at_call 47; refine hQ.out.mono ?_; rintro e w2 ⟨g, rfl, hb2, ho2⟩) | (go_at_call 55; refine (HT'.out _ _ _ ho2).mono ?_; rintro e w3 ⟨rfl, rfl⟩))
          go_roundw
          case rel => exact ⟨k + 1, _, _, by omega, by go_num, rfl, rfl, by omega, HN, kept_trans hb hb2⟩
          case measure => simp [intOf]; omega
        · have hk0 : 0 < k := by omega
          have hB : (B == 0) = false := by simp; omega
          have hBd : decide (B = 0) = false := by simp; omega
          rcases (show S ((k : Int) + 1) < L ∨ L ≤ S ((k : Int) + 1) by omega) with hS | hS
          · have HN : Hid (eb (k + 1) = ((k : Int) + 1, S ((k : Int) + 1))) := HO.out k (.inr (by rw [HE2.out]; exact hS))
            clear HO HW H0
            go_wp2_with (first | (go_at_call 54; refine (i_size_int _ _ _ _ ?_).mono ?_; (omega); rintro e w' ⟨rfl, rfl⟩) | (go_at_call 47; refine hQ.out.mono ?_; rintro e w2 ⟨g, rfl, hb2, ho2⟩) | (go_at_call 55; refine (HT'.out _ _ _ ho2).mono ?_; rintro e w3 ⟨rfl, rfl⟩))
            go_roundw
            case rel => exact ⟨k + 1, _, _, by omega, by go_num, rfl, rfl, by omega, HN, kept_trans hb hb2⟩
            case measure => simp [intOf]; omega
          · have HN : Hid (eb (k + 1) = (B, L)) := (HW.out k hk0 (by rw [HE2.out]; exact hS)).trans HE2.out
            clear HO HW H0
            go_wp2_with (first | (go_at_call 54; refine (i_size_int _ _ _ _ ?_).mono ?_; (omega); rintro e w' ⟨rfl, rfl⟩) | (go_at_call 47; refine hQ.out.mono ?_; rintro e w2 ⟨g, rfl, hb2, ho2⟩) | (go_at_call 55; refine (HT'.out _ _ _ ho2).mono ?_; rintro e w3 ⟨rfl, rfl⟩))
            go_roundw
            case rel => exact ⟨k + 1, _, _, by omega, by go_num, rfl, rfl, by omega, HN, kept_trans hb hb2⟩
            case measure => simp [intOf]; omega
      · obtain rfl : k = n := by omega
        go_wp2_with (go_at_call 54; refine (i_size_int _ _ _ _ ?_).mono ?_; (omega); rintro e w' ⟨rfl, rfl⟩)
        go_ret3
        exact ⟨by rw [HE2.out]; rfl, hb⟩

theorem s_ExtraRide (v : Value) (n : Nat) (z : Nat → Int) (ev se : Int) (W : World) (hs : Sl W v 1 n (ic z)) : Calls Try.prog 25 #[v, .int .i64 ev, .int .i64 se] W fun e W' => e = .returned (.tuple #[.int .i64 (exIn n z ev se).1, .int .i64 (exIn n z ev se).2, .int .i64 (askCode (vArr n z) (inB ev 1 60 && inB se 1 1000))]) ∧ Below W.heap.size W W' := by
  have HA := Lib.hid (fun w => s_l20Ask v n z ev se w)
  have HQ := Lib.hid (fun w ex => s_l20Queues v n z ev se ex w)
  have HS := hs
  have hn := hs.1
  obtain ⟨hn, ao, cap, rfl, hr⟩ := hs
  clear hr
  have hn' : (n : Int) ≤ 17592186044416 := by omega
  rcases ask_cases (vArr n z) (inB ev 1 60 && inB se 1 1000) with ⟨c, hc, hc1, -⟩ | ⟨hv, hb, hc⟩
  · have hq := Lib.hid (exIn_no hc hc1)
    rw [hq.out, hc]
    rw [hc] at HA
    clear hc hq
    rcases hc1 with rfl | rfl
    all_goals
      go_enter Try.func25, Try.ntmps25
      go_wp2_with fail
      refine (HA.out _ HS).mono ?_
      rintro e w1 ⟨rfl, hb1⟩
      go_wp2_with fail
      go_ret3
      exact ⟨rfl, hb1⟩
  · have hx := Lib.hid (exIn_yes hc)
    rw [hx.out, hc]
    rw [hc] at HA
    clear hc hx
    rw [Bool.and_eq_true] at hb
    obtain ⟨h1, h2⟩ := hb
    have b1 := inB_out h1
    have b2 := inB_out h2
    obtain ⟨n1, n2, HZ⟩ := vArr_out hv
    have HZ := Lib.hid HZ
    have HE := Lib.hid (exS_bd (ev := ev) HZ.out b2.1 n2)
    have HT := Lib.hid (fun ex g w B => s_sumq (.bool true) n z ev se ex g w B n2 HZ b2.1)
    clear hv h1 h2
    generalize exS n z ev se = S at *
    have HO := Lib.hid (fun k => exBest_one S (k := k))
    have HW := Lib.hid (fun k => exBest_two S (k := k))
    have H0 := Lib.hid (exBest_zero S)
    generalize exBest S = eb at *
    go_enter Try.func25, Try.ntmps25
    go_wp2_with fail
    refine (HA.out _ HS).mono ?_
    rintro e w1 ⟨rfl, hb1⟩
    go_wp2_with fail
    go_loopw [10, 11, 12] (fun b l m wr => ∃ (k : Nat) (B L : Int), k ≤ n ∧ m = .int .i64 ((k : Int) + 1) ∧ b = .int .i64 B ∧ l = .int .i64 L ∧ ((k ≤ 0 ∧ L < 0) ∨ (0 < k ∧ 0 ≤ L)) ∧ (-1 ≤ L) ∧ Hid (0 < k → eb k = (B, L)) ∧ Below W.heap.size W wr) (fun _ _ m _ => n + 1 - (intOf m).toNat)
    case atStart => exact ⟨0, 0, -1, Nat.zero_le _, rfl, rfl, rfl, by omega, by omega, fun h => absurd h (by omega), hb1⟩
    case round =>
      obtain ⟨k, B, L, hk, rfl, rfl, rfl, hB2, hL, HE2, hb⟩ := hrel
      by_cases hlt : k < n
      · have hE := HE.out ((k : Int) + 1)
        have hlt' : (k : Int) + 1 ≤ n := by omega
        have hQ := Lib.hid (HQ.out wr ((k : Int) + 1) (HS.kept hb) n1 n2 HZ b1 b2)
        have HT' := Lib.hid (HT.out ((k : Int) + 1))
        clear HT HQ
        rcases hB2 with ⟨h0, h1⟩ | ⟨h0, h1⟩
        · have HN : Hid (0 < k + 1 → eb (k + 1) = ((k : Int) + 1, S ((k : Int) + 1))) := fun _ => HO.out k (.inl (by omega))
          clear HO HW H0
          go_wp2_with (first | (go_at_call 44; refine hQ.out.mono ?_; rintro e w2 ⟨g, rfl, hb2, ho2⟩) | (go_at_call 51; refine (HT'.out _ _ _ ho2).mono ?_; rintro e w3 ⟨rfl, rfl⟩))
          go_roundw
          case rel => exact ⟨k + 1, _, _, by omega, by go_num, rfl, rfl, by omega, by omega, HN, kept_trans hb hb2⟩
          case measure => simp [intOf]; omega
        · rcases (show S ((k : Int) + 1) < L ∨ L ≤ S ((k : Int) + 1) by omega) with hS | hS
          · have HN : Hid (0 < k + 1 → eb (k + 1) = ((k : Int) + 1, S ((k : Int) + 1))) := fun _ => HO.out k (.inr (by rw [HE2.out h0]; exact hS))
            clear HO HW H0
            go_wp2_with (first | (go_at_call 44; refine hQ.out.mono ?_; rintro e w2 ⟨g, rfl, hb2, ho2⟩) | (go_at_call 51; refine (HT'.out _ _ _ ho2).mono ?_; rintro e w3 ⟨rfl, rfl⟩))
            go_roundw
            case rel => exact ⟨k + 1, _, _, by omega, by go_num, rfl, rfl, by omega, by omega, HN, kept_trans hb hb2⟩
            case measure => simp [intOf]; omega
          · have HN : Hid (0 < k + 1 → eb (k + 1) = (B, L)) := fun _ => (HW.out k h0 (by rw [HE2.out h0]; exact hS)).trans (HE2.out h0)
            clear HO HW H0
            go_wp2_with (first | (go_at_call 44; refine hQ.out.mono ?_; rintro e w2 ⟨g, rfl, hb2, ho2⟩) | (go_at_call 51; refine (HT'.out _ _ _ ho2).mono ?_; rintro e w3 ⟨rfl, rfl⟩))
            go_roundw
            case rel => exact ⟨k + 1, _, _, by omega, by go_num, rfl, rfl, by omega, by omega, HN, kept_trans hb hb2⟩
            case measure => simp [intOf]; omega
      · obtain rfl : k = n := by omega
        have HE3 := Lib.hid (HE2.out (by omega))
        clear hB2
        go_wp2
        go_ret3
        exact ⟨by rw [HE3.out]; rfl, hb⟩

theorem l_ExtraRide {W : World} (v : Value) (n : Nat) (z : Nat → Int) (hs : Sl W v 1 n (ic z)) (_hz : ∀ i, i < n → -9223372036854775808 ≤ z i ∧ z i ≤ 9223372036854775807) (ev se : Int) : Calls Try.prog 7 #[v, .int .i64 ev, .int .i64 se] W (Truly W) :=
  l_ExtraRide_of v n z ev se hs _ _ _ (fun w q h => s_ExtraRide q n z ev se w h) (fun w q h => i_ExtraRide q n z ev se w h)

end Go.Proofs.Ytobpeiimiglknaa
