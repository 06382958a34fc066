/- Rides that leave later: the program's and the reference's lists. -/
import Derived.Test.YteieiceknnnphaaDoorLate
namespace Go.Proofs.YteieiceknnnphaaDoor
open Go.RowKit Go.Deep
set_option maxRecDepth 100000
set_option linter.unusedVariables false

def LatePost (n : Nat) (z : Nat → Int) (W : World) (e : Ending) (W' : World) : Prop := ∃ g, e = .returned g ∧ Below W.heap.size W W' ∧ Out W' W.heap.size 2 1 g n (ic z)

set_option maxHeartbeats 1000000 in
theorem i_delayedRides (v : Value) (n : Nat) (lv tk : Nat → Int) (k : Nat) (d t : Int) (W : World) (hs : Sl W v 2 n (rc lv tk)) (hk : k < n) (h24 : n ≤ 24) (HB : Hid (∀ i, i < n → 0 ≤ lv i ∧ lv i ≤ 1440 ∧ 1 ≤ tk i ∧ tk i ≤ 1440)) (hd : 0 ≤ d ∧ d ≤ 1440) (ht : 0 ≤ t ∧ t ≤ 1440) :
    Calls Tryd.prog 31 #[v, .int .i64 k, .int .i64 d, .int .i64 t] W (LatePost n (late lv tk k d t) W) := by
  obtain ⟨i0, hi, hz0, hz1, hz2⟩ := info_parts infoInt
  have HL := Lib.hid (late_bd (k := k) HB.out hd ht)
  obtain ⟨hn, ao, cap, rfl, hr⟩ := hs
  obtain ⟨hd0, hd1⟩ := hd
  obtain ⟨ht0, ht1⟩ := ht
  rcases hr with h0 | ⟨g, off, rfl, hr⟩
  · omega
  go_enter Tryd.func31, Tryd.ntmps31
  go_wp2
  go_loopw [9, 15] (fun v i wr => ∃ (j : Nat) (u : Value), j ≤ n ∧ i = .int .i64 j ∧ u = v ∧ Below W.heap.size W wr ∧ Out wr W.heap.size 2 1 u j (ic (late lv tk k d t))) (fun _ i _ => n - (intOf i).toNat)
  case atStart => exact ⟨0, _, Nat.zero_le _, rfl, rfl, Below.refl _ _, Out.nil _ _ _ _ _⟩
  case round =>
    obtain ⟨j, u, hj, rfl, rfl, hb, hown⟩ := hrel
    by_cases hlt : j < n
    · have hr2 := hr.kept hb
      obtain ⟨hs0, hs1⟩ := rcells hr2 hlt
      have b0 := HB.out j hlt
      have hownA := hown.kept (kept_alloc (Below.refl _ _) (.cells #[.int .i64 (lv j), .int .i64 (tk j)] 32))
      have hbA : Below W.heap.size W (wr.alloc (.cells #[.int .i64 (lv j), .int .i64 (tk j)] 32)) := kept_alloc hb _
      have hlaid : ∀ x, ∀ j' u, [Value.int .i64 x][j']? = some u → ((wr.alloc (.cells #[.int .i64 (lv j), .int .i64 (tk j)] 32)).alloc (.cells #[.int .i64 x] 2)).cell? ((⟨wr.heap.size + 1, 0, none⟩ : Addr).add j') = some u := by
        intro x
        have h := laid_new (w := wr.alloc (.cells #[.int .i64 (lv j), .int .i64 (tk j)] 32)) (cs := [.int .i64 x]) (t := 2)
        rw [show (wr.alloc (.cells #[.int .i64 (lv j), .int .i64 (tk j)] 32)).heap.size = wr.heap.size + 1 by simp] at h
        exact h
      have HLD := Lib.hid hlaid
      clear hlaid
      rcases (show j < k ∨ j = k ∨ k < j by omega) with hjk | hjk | hjk
      · have hat : Hid (Value.int .i64 (lv j) = ic (late lv tk k d t) j) := by show _ = _; simp only [ic]; rw [late_lt hjk]
        have hne : (j == k) = false := by simp; omega
        have hne' : ((j : Int) == k) = false := by simp; omega
        clear hr hr2 hown
        go_wp2_with (at_builtin; refine wpList_append_own _ rfl _ _ 27 rfl _ 2 i0 _ 1 8 Tryd.underlying27 hi hz0 hz1 hz2 rfl (by decide) _ _ _ rfl (hownA.row.alloc _) ⟨wr.heap.size + 1, 0, none⟩ 1 1 [.int .i64 (lv j)] rfl rfl (HLD.out _) (by intro u hu; simp at hu; subst hu; rfl) (by simp only [maxLen]; omega) (by omega) (by have hbs := hbA.size; simp at hbs ⊢; omega) ?_; intro v1 w1 hown1 hgrow1 _)
        have R1 : Hid (Out w1 W.heap.size 2 1 v1 (j + 1) (ic (late lv tk k d t))) := Out.snoc1 hown1 hat.out
        have R2 := below_of_append hbA hownA.row hgrow1
        clear hownA hown1 hgrow1 hb hbA
        go_wp2
        go_roundw
        case rel => exact ⟨j + 1, _, by omega, by go_num, rfl, R2, R1.out⟩
        case measure => simp [intOf]; omega
      · subst hjk
        have hat : Hid (Value.int .i64 (lv j + d) = ic (late lv tk j d t) j) := by show _ = _; simp only [ic]; rw [late_eq]
        clear hr hr2 hown
        go_wp2_with (at_builtin; refine wpList_append_own _ rfl _ _ 27 rfl _ 2 i0 _ 1 8 Tryd.underlying27 hi hz0 hz1 hz2 rfl (by decide) _ _ _ rfl (hownA.row.alloc _) ⟨wr.heap.size + 1, 0, none⟩ 1 1 [.int .i64 (lv j + d)] rfl rfl (HLD.out _) (by intro u hu; simp at hu; subst hu; rfl) (by simp only [maxLen]; omega) (by omega) (by have hbs := hbA.size; simp at hbs ⊢; omega) ?_; intro v1 w1 hown1 hgrow1 _)
        have R1 : Hid (Out w1 W.heap.size 2 1 v1 (j + 1) (ic (late lv tk j d t))) := Out.snoc1 hown1 hat.out
        have R2 := below_of_append hbA hownA.row hgrow1
        clear hownA hown1 hgrow1 hb hbA
        go_wp2
        go_roundw
        case rel => exact ⟨j + 1, _, by omega, by go_num, rfl, R2, R1.out⟩
        case measure => simp [intOf]; omega
      · have hne : (j == k) = false := by simp; omega
        have hne' : ((j : Int) == k) = false := by simp; omega
        have b1 := HB.out (j - 1) (by omega)
        have L1 := HL.out (j - 1) (by omega)
        obtain ⟨h, cp, rfl, hge, hro⟩ := hownA.opened (by omega)
        obtain ⟨ht0', ht1'⟩ := rcells (hr2.kept (kept_alloc (Below.refl _ _) (.cells #[.int .i64 (lv j), .int .i64 (tk j)] 32))) (k := j - 1) (by omega)
        have hl := hro.cell (i := j - 1) (by omega)
        have hat := Lib.hid (late_gt (lv := lv) (tk := tk) (d := d) (t := t) hjk)
        clear hr hr2 hown hro ht0'
        simp only [ic, Nat.zero_add] at hl
        generalize hl0 : late lv tk k d t (j - 1) = l0 at *
        have hl0 := Lib.hid hl0
        have e1 : IntKind.i64.wrap ((j : Int) - 1) = (j : Int) - 1 := IntWalk.i64_in _ (by omega)
        have e2 : (0 : Int) ≤ (j : Int) - 1 := by omega
        have e3 : ((j : Int) - 1).toNat = j - 1 := by omega
        have e4 : IntKind.i64.wrap (l0 + tk (j - 1)) = l0 + tk (j - 1) := IntWalk.i64_in _ (by omega)
        have e5 : IntKind.i64.wrap (l0 + tk (j - 1) + t) = l0 + tk (j - 1) + t := IntWalk.i64_in _ (by omega)
        have e6 : (j : Int) - 1 < n := by omega
        have e7 : (1 : Int) ≤ j := by omega
        have e8 : (j : Int) ≤ n := by omega
        rcases (show lv j < l0 + tk (j - 1) + t ∨ l0 + tk (j - 1) + t ≤ lv j by omega) with hm | hm
        · have hat2 : Hid (Value.int .i64 (l0 + tk (j - 1) + t) = ic (late lv tk k d t) j) := by show _ = _; simp only [ic]; rw [hat.out]; congr 1; omega
          clear hat
          go_wp2
          go_quiet (fail)
          clear e1 e2 e3 e4 e5 e6 e7 e8
          go_wp2_with (at_builtin; go_must (refine wpList_append_own _ rfl _ _ 27 rfl _ 2 i0 _ 1 8 Tryd.underlying27 hi hz0 hz1 hz2 rfl (by decide) _ _ _ rfl ((hownA.kept (kept_drewN (Below.refl _ _) _)).row.alloc _) ⟨wr.heap.size + 1, 0, none⟩ 1 1 [.int .i64 (l0 + tk (j - 1) + t)] rfl rfl (laid_at (by simp)) (by intro u hu; simp at hu; first | (rcases hu with rfl | rfl <;> rfl) | (subst hu; rfl)) (by simp only [maxLen]; omega) (by omega) (by have hbs := hbA.size; simp at hbs ⊢; omega) ?_); intro v1 w1 hown1 hgrow1 _)
          have R1 : Hid (Out w1 W.heap.size 2 1 v1 (j + 1) (ic (late lv tk k d t))) := Out.snoc1 hown1 hat2.out
          have R2 := below_of_append (kept_drewN hbA _) (hownA.kept (kept_drewN (Below.refl _ _) _)).row hgrow1
          clear hownA hown1 hgrow1 hb hbA
          go_wp2
          go_roundw
          case rel => exact ⟨j + 1, _, by omega, by go_num, rfl, R2, R1.out⟩
          case measure => simp [intOf]; omega
        · have hat2 : Hid (Value.int .i64 (lv j) = ic (late lv tk k d t) j) := by show _ = _; simp only [ic]; rw [hat.out]; congr 1; omega
          clear hat
          go_wp2
          go_quiet (fail)
          clear e1 e2 e3 e4 e5 e6 e7 e8
          go_wp2_with (at_builtin; go_must (refine wpList_append_own _ rfl _ _ 27 rfl _ 2 i0 _ 1 8 Tryd.underlying27 hi hz0 hz1 hz2 rfl (by decide) _ _ _ rfl ((hownA.kept (kept_drewN (Below.refl _ _) _)).row.alloc _) ⟨wr.heap.size + 1, 0, none⟩ 1 1 [.int .i64 (lv j)] rfl rfl (laid_at (by simp)) (by intro u hu; simp at hu; first | (rcases hu with rfl | rfl <;> rfl) | (subst hu; rfl)) (by simp only [maxLen]; omega) (by omega) (by have hbs := hbA.size; simp at hbs ⊢; omega) ?_); intro v1 w1 hown1 hgrow1 _)
          have R1 : Hid (Out w1 W.heap.size 2 1 v1 (j + 1) (ic (late lv tk k d t))) := Out.snoc1 hown1 hat2.out
          have R2 := below_of_append (kept_drewN hbA _) (hownA.kept (kept_drewN (Below.refl _ _) _)).row hgrow1
          clear hownA hown1 hgrow1 hb hbA
          go_wp2
          go_roundw
          case rel => exact ⟨j + 1, _, by omega, by go_num, rfl, R2, R1.out⟩
          case measure => simp [intOf]; omega
    · obtain rfl : j = n := by omega
      go_wp2
      go_ret
      exact ⟨_, rfl, hb, hown⟩

def delayN (n : Nat) (lv tk : Nat → Int) (k d t : Int) : Nat := if tAsk n lv tk (delayOk n k d t) = 0 then n else 0
theorem delay_cases (n : Nat) (lv tk : Nat → Int) (k d t : Int) : (∃ c, tAsk n lv tk (delayOk n k d t) = c ∧ (1 ≤ c ∧ c ≤ 2) ∧ Hid (delayN n lv tk k d t = 0)) ∨
    (tAsk n lv tk (delayOk n k d t) = 0 ∧ n ≤ 24 ∧ Hid (∀ i, i < n → 0 ≤ lv i ∧ lv i ≤ 1440 ∧ 1 ≤ tk i ∧ tk i ≤ 1440) ∧ (∃ k' : Nat, k = k' ∧ k' < n ∧ (0 ≤ d ∧ d ≤ 1440) ∧ (0 ≤ t ∧ t ≤ 1440)) ∧ Hid (delayN n lv tk k d t = n)) := by
  rcases tAsk_cases n lv tk (delayOk n k d t) with ⟨hv, hf⟩ | ⟨hv, hi, hf⟩ | ⟨hv, hi, hf⟩
  · exact .inl ⟨1, hf.out, by omega, by show delayN _ _ _ _ _ _ = _; unfold delayN; rw [hf.out]; rfl⟩
  · exact .inl ⟨2, hf.out, by omega, by show delayN _ _ _ _ _ _ = _; unfold delayN; rw [hf.out]; rfl⟩
  · refine .inr ⟨hf.out, (vTable_out hv).1, fun i hi' => ?_, delayOk_out hi, by show delayN _ _ _ _ _ _ = _; unfold delayN; rw [hf.out]; rfl⟩
    have h1 := (rideAt_out ((vTable_out hv).2 i hi')).1
    have h2 := vRide_out h1
    omega
attribute [irreducible] delayN
def DelayPost (n : Nat) (lv tk : Nat → Int) (k d t : Int) (W : World) (e : Ending) (W' : World) : Prop :=
  ∃ g, e = .returned (.tuple #[g, .int .i64 (tAsk n lv tk (delayOk n k d t))]) ∧ Below W.heap.size W W' ∧ Out W' W.heap.size 2 1 g (delayN n lv tk k d t) (ic (late lv tk k.toNat d t))

theorem i_DelayedRides (v : Value) (n : Nat) (lv tk : Nat → Int) (k d t : Int) (W : World) (hs : Sl W v 2 n (rc lv tk)) : Calls Tryd.prog 14 #[v, .int .i64 k, .int .i64 d, .int .i64 t] W (DelayPost n lv tk k d t W) := by
  have HA := Lib.hid (fun w => i_delayable v n lv tk k d t w)
  have HD := Lib.hid (fun w k => i_delayedRides v n lv tk k d t w)
  have HS := hs
  obtain ⟨hn, ao, cap, rfl, hr⟩ := hs
  clear hr
  unfold DelayPost
  rcases delay_cases n lv tk k d t with ⟨c, hc, hc1, HT⟩ | ⟨hc, h24, HB, ⟨k', rfl, hk, hd, ht⟩, HT⟩
  · rw [hc] at HA
    rw [HT.out, hc]
    go_enter Tryd.func14, Tryd.ntmps14
    go_wp2_with fail
    refine (HA.out _ HS).mono ?_
    rintro e w1 ⟨rfl, hb1⟩
    go_wp2_with fail
    refine bodyPost_ret (results_tmp2 rfl _ _ _) rfl ⟨_, rfl, hb1, Out.nil _ _ _ _ _⟩
  · rw [hc] at HA
    rw [HT.out, hc, Int.toNat_natCast]
    go_enter Tryd.func14, Tryd.ntmps14
    go_wp2_with fail
    refine (HA.out _ HS).mono ?_
    rintro e w1 ⟨rfl, hb1⟩
    go_wp2_with fail
    refine (HD.out _ _ (HS.kept hb1) hk h24 HB hd ht).mono ?_
    rintro e w2 ⟨g, rfl, hb2, ho2⟩
    go_wp2_with fail
    refine bodyPost_ret (results_tmp2 rfl _ _ _) rfl ⟨_, rfl, kept_trans hb1 hb2, ho2.base_le hb1.size⟩

def sumD (n : Nat) (lv tk : Nat → Int) (k d t : Int) : Int := if tAsk n lv tk (delayOk n k d t) = 0 then lateSum lv tk k.toNat d t n else 0
theorem sumD_no {n : Nat} {lv tk : Nat → Int} {k d t c : Int} (h : tAsk n lv tk (delayOk n k d t) = c) (hc : 1 ≤ c) : sumD n lv tk k d t = 0 := by unfold sumD; rw [if_neg (by omega)]
theorem sumD_yes {n : Nat} {lv tk : Nat → Int} {k : Nat} {d t : Int} (h : tAsk n lv tk (delayOk n k d t) = 0) : sumD n lv tk k d t = lateSum lv tk k d t n := by unfold sumD; rw [if_pos h, Int.toNat_natCast]
attribute [irreducible] sumD

theorem i_TotalDelay (v : Value) (n : Nat) (lv tk : Nat → Int) (k d t : Int) (W : World) (hs : Sl W v 2 n (rc lv tk)) : Calls Tryd.prog 15 #[v, .int .i64 k, .int .i64 d, .int .i64 t] W fun e W' => e = .returned (.tuple #[.int .i64 (sumD n lv tk k d t), .int .i64 (tAsk n lv tk (delayOk n k d t))]) ∧ Below W.heap.size W W' := by
  have HA := Lib.hid (fun w => i_delayable v n lv tk k d t w)
  have HD := Lib.hid (fun w k => i_delayedRides v n lv tk k d t w)
  have HS := hs
  obtain ⟨hn, ao, cap, rfl, hr⟩ := hs
  rcases delay_cases n lv tk k d t with ⟨c, hc, hc1, HT⟩ | ⟨hc, h24, HB, ⟨k', rfl, hk, hd, ht⟩, HT⟩
  · have HZ := Lib.hid (sumD_no hc hc1.1)
    clear hr
    rw [hc] at HA
    rw [hc]
    rcases (show c = 1 ∨ c = 2 by omega) with rfl | rfl
    all_goals
      go_enter Tryd.func15, Tryd.ntmps15
      go_wp2_with fail
      refine (HA.out _ HS).mono ?_
      rintro e w1 ⟨rfl, hb1⟩
      go_wp2_with fail
      go_ret2
      exact ⟨by rw [HZ.out]; rfl, hb1⟩
  · have HZ := Lib.hid (sumD_yes hc)
    have HL := Lib.hid (late_bd (k := k') HB.out hd ht)
    have HSB := Lib.hid (lateSum_bd (k := k') HB.out hd ht h24)
    have H0 := Lib.hid (lateSum_zero lv tk k' d t)
    have H1 := Lib.hid (lateSum_succ lv tk k' d t)
    rw [hc] at HA
    rw [hc]
    rcases hr with h0 | ⟨g, off, rfl, hr⟩
    · omega
    go_enter Tryd.func15, Tryd.ntmps15
    go_wp2_with fail
    refine (HA.out _ HS).mono ?_
    rintro e w1 ⟨rfl, hb1⟩
    go_wp2_with fail
    refine (HD.out _ _ (HS.kept hb1) hk h24 HB hd ht).mono ?_
    rintro e w2 ⟨gg, rfl, hb2, ho2⟩
    obtain ⟨hh, cp, rfl, hge, hro⟩ := ho2.opened (by omega)
    generalize late lv tk k' d t = lt at *
    generalize lateSum lv tk k' d t = ls at *
    clear ho2
    go_wp2_with fail
    go_loopw [11, 28] (fun a i wr => ∃ (j : Nat), j ≤ n ∧ i = .int .i64 j ∧ a = .int .i64 (ls j) ∧ Below w2.heap.size w2 wr) (fun _ i _ => n - (intOf i).toNat)
    case atStart => exact ⟨0, Nat.zero_le _, rfl, by rw [H0.out], Below.refl _ _⟩
    case round =>
      obtain ⟨j, hj, rfl, rfl, hb⟩ := hrel
      by_cases hlt : j < n
      · obtain ⟨hs0, hs1⟩ := rcells (((hr.kept hb1).kept hb2).kept hb) hlt
        have hl := (hro.kept hb).cell (i := j) (by omega)
        have b0 := HB.out j hlt
        have L1 := HL.out j hlt
        have B1 := HSB.out j (by omega)
        have HN := Lib.hid (H1.out j)
        clear hr hro hs1
        simp only [ic, Nat.zero_add] at hl
        generalize lt j = x at *
        generalize ls j = y at *
        have e1 : IntKind.i64.wrap (x - lv j) = x - lv j := IntWalk.i64_in _ (by omega)
        have e2 : IntKind.i64.wrap (y + (x - lv j)) = y + (x - lv j) := IntWalk.i64_in _ (by omega)
        go_wp2_with fail
        try go_quiet (fail)
        clear e1 e2
        try go_wp2_with fail
        go_roundw
        case rel => exact ⟨j + 1, by omega, by go_num, by rw [HN.out], (by repeat (first | assumption | exact Below.refl _ _ | refine kept_drew ?_ | refine kept_drewN ?_ _ | refine kept_alloc ?_ _ | refine kept_set ?_ ?_ _ | (simp; done) | (simp; omega) | refine kept_trans ?_ (by assumption)))⟩
        case measure => simp [intOf]; omega
      · obtain rfl : j = n := by omega
        go_wp2
        go_ret2
        exact ⟨by rw [HZ.out]; rfl, kept_trans (kept_trans hb1 hb2) hb⟩

end Go.Proofs.YteieiceknnnphaaDoor
