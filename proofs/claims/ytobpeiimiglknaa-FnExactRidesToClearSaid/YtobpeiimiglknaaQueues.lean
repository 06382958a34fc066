/- The queues at the ends of all minutes. -/
import Derived.Test.YtobpeiimiglknaaQueue
import Derived.Test.YtobpeiimiglknaaQLaws
namespace Go.Proofs.Ytobpeiimiglknaa
open Go.RowKit Go.Deep
set_option linter.unusedVariables false

/-- A ride with s seats takes people away, if c. -/
def dn (c : Bool) (a s : Int) : Int := if c then max 0 (a - s) else a
theorem dn_bd {c : Bool} {a s b : Int} (h : 0 ≤ a ∧ a ≤ b) (hs : 1 ≤ s) : 0 ≤ dn c a s ∧ dn c a s ≤ b := by unfold dn; split <;> omega
/-- The queue behind i minutes. -/
def qu (z : Nat → Int) (ev se ex : Int) : Nat → Int
  | 0 => 0
  | i + 1 => dn (decide ((i : Int) + 1 = ex)) (dn (decide (((i : Int) + 1) % ev = 0)) (qu z ev se ex i + z i) se) se
theorem qu_zero (z : Nat → Int) (ev se ex : Int) : qu z ev se ex 0 = 0 := rfl
theorem qu_succ (z : Nat → Int) (ev se ex : Int) (i : Nat) : qu z ev se ex (i + 1) = dn (decide ((i : Int) + 1 = ex)) (dn (decide (((i : Int) + 1) % ev = 0)) (qu z ev se ex i + z i) se) se := rfl
theorem qu_bd {z : Nat → Int} {n : Nat} {ev se ex : Int} (hz : ∀ i, i < n → 0 ≤ z i ∧ z i ≤ 1000) (hs : 1 ≤ se) : ∀ i, i ≤ n → 0 ≤ qu z ev se ex i ∧ qu z ev se ex i ≤ 1000 * i := by
  intro i
  induction i with
  | zero => intro _; simp [qu]
  | succ i ih =>
    intro h
    have h1 := ih (by omega)
    have h2 := hz i (by omega)
    rw [qu_succ]
    exact dn_bd (dn_bd (by omega) hs) hs
theorem vArr_out {n : Nat} {z : Nat → Int} (h : vArr n z = true) : 1 ≤ n ∧ n ≤ 60 ∧ ∀ i, i < n → 0 ≤ z i ∧ z i ≤ 1000 := by
  simp only [vArr, Bool.and_eq_true, decide_eq_true_eq] at h
  exact ⟨h.1.1, h.1.2, fun i hi => inB_out (allTo_out h.2 i hi)⟩
theorem dn_yes (a s : Int) : dn true a s = a - (if s < a then s else a) := by unfold dn; rw [if_pos rfl]; split <;> omega
theorem dn_max (a s : Int) : dn true a s = max 0 (a - s) := by unfold dn; rw [if_pos rfl]
theorem dn_no (a s : Int) : dn false a s = a := by unfold dn; simp
theorem ask_cases (v f : Bool) : (∃ c : Int, askCode v f = c ∧ (c = 1 ∨ c = 2) ∧ (v && f) = false) ∨ (v = true ∧ f = true ∧ askCode v f = 0) := by
  cases v <;> cases f <;> simp [askCode]
theorem and2_cases (a b : Bool) : (a = false ∧ Hid ((a && b) = false)) ∨ (a = true ∧ b = false ∧ Hid ((a && b) = false)) ∨ (a = true ∧ b = true ∧ Hid ((a && b) = true)) := by
  cases a
  · exact .inl ⟨rfl, rfl⟩
  · cases b
    · exact .inr (.inl ⟨rfl, rfl, rfl⟩)
    · exact .inr (.inr ⟨rfl, rfl, rfl⟩)
theorem and3_cases (a b c : Bool) : (a = false ∧ Hid ((a && b && c) = false)) ∨ (a = true ∧ b = false ∧ Hid ((a && b && c) = false)) ∨ (a = true ∧ b = true ∧ c = false ∧ Hid ((a && b && c) = false)) ∨ (a = true ∧ b = true ∧ c = true ∧ Hid ((a && b && c) = true)) := by
  cases a
  · exact .inl ⟨rfl, rfl⟩
  · cases b
    · exact .inr (.inl ⟨rfl, rfl, rfl⟩)
    · cases c
      · exact .inr (.inr (.inl ⟨rfl, rfl, rfl, rfl⟩))
      · exact .inr (.inr (.inr ⟨rfl, rfl, rfl, rfl⟩))
theorem qu_ways (z : Nat → Int) (ev se ex : Int) (i : Nat) (b1 b2 : Bool) (h1 : (((i : Int) + 1) % ev == 0) = b1) (h2 : ((i : Int) + 1 == ex) = b2) : qu z ev se ex (i + 1) = dn b2 (dn b1 (qu z ev se ex i + z i) se) se := by
  rw [qu_succ, ← h1, ← h2]; rfl
attribute [irreducible] qu
def QuPost (n : Nat) (z : Nat → Int) (ev se ex : Int) (W : World) (e : Ending) (W' : World) : Prop := ∃ g, e = .returned g ∧ Below W.heap.size W W' ∧ Out W' W.heap.size 2 1 g n (ic (fun i => qu z ev se ex (i + 1)))

set_option maxHeartbeats 1000000 in
theorem i_queues (v : Value) (n : Nat) (z : Nat → Int) (ev se ex : Int) (W : World) (hs : Sl W v 1 n (ic z)) (hn1 : 1 ≤ n) (hn0 : n ≤ 60) (HZ : Hid (∀ i, i < n → 0 ≤ z i ∧ z i ≤ 1000)) (he : 1 ≤ ev ∧ ev ≤ 60) (hse : 1 ≤ se ∧ se ≤ 1000) :
    Calls Try.prog 47 #[v, .int .i64 ev, .int .i64 se, .int .i64 ex] W (QuPost n z ev se ex W) := by
  obtain ⟨i0, hi, hz0, hz1, hz2⟩ := info_parts infoInt
  have HB := Lib.hid (qu_bd (ev := ev) (ex := ex) HZ.out hse.1)
  have H0 := Lib.hid (qu_zero z ev se ex)
  have HW := Lib.hid (qu_ways z ev se ex)
  unfold QuPost
  generalize qu z ev se ex = q at *
  obtain ⟨hn, ao, cap, rfl, hr⟩ := hs
  obtain ⟨e1, e2⟩ := he
  obtain ⟨s1, s2⟩ := hse
  rcases hr with h0 | ⟨g, off, rfl, hr⟩
  · exact absurd hn1 (by omega)
  go_enter Try.func47, Try.ntmps47
  go_wp2
  go_loopw [9, 10, 16] (fun v w i wr => ∃ (j : Nat) (u : Value), j ≤ n ∧ i = .int .i64 j ∧ u = v ∧ w = .int .i64 (q j) ∧ Below W.heap.size W wr ∧ Out wr W.heap.size 2 1 u j (ic (fun i => q (i + 1)))) (fun _ _ i _ => n - (intOf i).toNat)
  case atStart => exact ⟨0, _, Nat.zero_le _, rfl, rfl, by rw [H0.out], Below.refl _ _, Out.nil _ _ _ _ _⟩
  case round =>
    obtain ⟨j, u, hj, rfl, rfl, rfl, hb, hown⟩ := hrel
    by_cases hlt : j < n
    · have hs0 := (hr.kept hb).cell (i := j) (by omega)
      have z1 := HZ.out j hlt
      have b1 := HB.out j (by omega)
      have hq := Lib.hid (HW.out j)
      clear hr H0
      simp only [ic] at hs0
      go_wp2_with (at_builtin; refine wpList_append_own _ rfl _ _ 22 rfl _ 2 i0 _ 1 8 Try.underlying22 hi hz0 hz1 hz2 rfl (by decide) _ _ _ rfl ((hown).row.alloc _) ⟨wr.heap.size, 0, none⟩ 1 1 _ (by rfl) (by rfl) (laid_at (by simp)) (by intro u hu; simp at hu; first | (rcases hu with rfl | rfl <;> rfl) | (subst hu; rfl)) (by simp only [maxLen]; omega) (by omega) (by have hbs := hb.size; simp at hbs ⊢; omega) ?_; intro v1 w1 hown1 hgrow1 _)
      · have h := hq.out true true (by assumption) (by assumption)
        rw [dn_yes, dn_yes] at h
        have h := Lib.hid h
        have R1 : Hid (Out w1 W.heap.size 2 1 v1 (j + 1) (ic (fun i => q (i + 1)))) := Out.snoc1 hown1 (by simp only [ic]; rw [h.out])
        have R2 := below_of_append hb hown.row hgrow1
        clear hown hown1 hgrow1 hb
        go_roundw
        case rel => exact ⟨j + 1, _, by omega, by go_num, rfl, by rw [h.out], R2, R1.out⟩
        case measure => simp [intOf]; omega
      · have h := hq.out true false (by assumption) (by assumption)
        rw [dn_no, dn_yes] at h
        have h := Lib.hid h
        have R1 : Hid (Out w1 W.heap.size 2 1 v1 (j + 1) (ic (fun i => q (i + 1)))) := Out.snoc1 hown1 (by simp only [ic]; rw [h.out])
        have R2 := below_of_append hb hown.row hgrow1
        clear hown hown1 hgrow1 hb
        go_roundw
        case rel => exact ⟨j + 1, _, by omega, by go_num, rfl, by rw [h.out], R2, R1.out⟩
        case measure => simp [intOf]; omega
      · have h := hq.out false true (by assumption) (by assumption)
        rw [dn_yes, dn_no] at h
        have h := Lib.hid h
        have R1 : Hid (Out w1 W.heap.size 2 1 v1 (j + 1) (ic (fun i => q (i + 1)))) := Out.snoc1 hown1 (by simp only [ic]; rw [h.out])
        have R2 := below_of_append hb hown.row hgrow1
        clear hown hown1 hgrow1 hb
        go_roundw
        case rel => exact ⟨j + 1, _, by omega, by go_num, rfl, by rw [h.out], R2, R1.out⟩
        case measure => simp [intOf]; omega
      · have h := hq.out false false (by assumption) (by assumption)
        rw [dn_no, dn_no] at h
        have h := Lib.hid h
        have R1 : Hid (Out w1 W.heap.size 2 1 v1 (j + 1) (ic (fun i => q (i + 1)))) := Out.snoc1 hown1 (by simp only [ic]; rw [h.out])
        have R2 := below_of_append hb hown.row hgrow1
        clear hown hown1 hgrow1 hb
        go_roundw
        case rel => exact ⟨j + 1, _, by omega, by go_num, rfl, by rw [h.out], R2, R1.out⟩
        case measure => simp [intOf]; omega
    · obtain rfl : j = n := by omega
      go_wp2
      go_ret
      exact ⟨_, rfl, hb, hown⟩

set_option maxHeartbeats 1000000 in
theorem s_l20Queues (v : Value) (n : Nat) (z : Nat → Int) (ev se ex : Int) (W : World) (hs : Sl W v 1 n (ic z)) (hn1 : 1 ≤ n) (hn0 : n ≤ 60) (HZ : Hid (∀ i, i < n → 0 ≤ z i ∧ z i ≤ 1000)) (he : 1 ≤ ev ∧ ev ≤ 60) (hse : 1 ≤ se ∧ se ≤ 1000) :
    Calls Try.prog 44 #[v, .int .i64 ev, .int .i64 se, .int .i64 ex] W (QuPost n z ev se ex W) := by
  obtain ⟨i0, hi, hz0, hz1, hz2⟩ := info_parts infoInt
  have HB := Lib.hid (qu_bd (ev := ev) (ex := ex) HZ.out hse.1)
  have H0 := Lib.hid (qu_zero z ev se ex)
  have HW := Lib.hid (qu_ways z ev se ex)
  unfold QuPost
  generalize qu z ev se ex = q at *
  obtain ⟨hn, ao, cap, rfl, hr⟩ := hs
  obtain ⟨e1, e2⟩ := he
  obtain ⟨s1, s2⟩ := hse
  rcases hr with h0 | ⟨g, off, rfl, hr⟩
  · exact absurd hn1 (by omega)
  go_enter Try.func44, Try.ntmps44
  go_wp2
  go_loopw [9, 10, 11] (fun v w i wr => ∃ (j : Nat) (u : Value), j ≤ n ∧ i = .int .i64 ((j : Int) + 1) ∧ u = v ∧ w = .int .i64 (q j) ∧ Below W.heap.size W wr ∧ Out wr W.heap.size 2 1 u j (ic (fun i => q (i + 1)))) (fun _ _ i _ => n + 1 - (intOf i).toNat)
  case atStart => exact ⟨0, _, Nat.zero_le _, rfl, rfl, by rw [H0.out], (by repeat (first | assumption | exact Below.refl _ _ | refine kept_drew ?_ | refine kept_drewN ?_ _ | refine kept_alloc ?_ _ | refine kept_set ?_ ?_ _ | (simp; done) | (simp; omega) | refine kept_trans ?_ (by assumption))), Out.empty _ _ _ _ _ (Nat.le_refl _)⟩
  case round =>
    obtain ⟨j, u, hj, rfl, rfl, rfl, hb, hown⟩ := hrel
    by_cases hlt : j < n
    · have hs0 := (hr.kept hb).cell (i := j) (by omega)
      have z1 := HZ.out j hlt
      have b1 := HB.out j (by omega)
      have hq := Lib.hid (HW.out j)
      clear hr H0
      simp only [ic] at hs0
      have hlt' : (j : Int) + 1 ≤ n := by omega
      go_wp2_with (first | (go_at_call 48; refine (s_l00Max _ _ _).mono ?_; rintro e w' ⟨rfl, rfl⟩) | (at_builtin; refine wpList_append_own _ rfl _ _ 22 rfl _ 2 i0 _ 1 8 Try.underlying22 hi hz0 hz1 hz2 rfl (by decide) _ _ _ rfl ((hown).row.alloc _) ⟨wr.heap.size, 0, none⟩ 1 1 _ (by rfl) (by rfl) (laid_at (by simp)) (by intro u hu; simp at hu; first | (rcases hu with rfl | rfl <;> rfl) | (subst hu; rfl)) (by simp only [maxLen]; omega) (by omega) (by have hbs := hb.size; simp at hbs ⊢; omega) ?_; intro v1 w1 hown1 hgrow1 _))
      · have h := hq.out true true (by assumption) (by assumption)
        rw [dn_max, dn_max] at h
        have h := Lib.hid h
        have R1 : Hid (Out w1 W.heap.size 2 1 v1 (j + 1) (ic (fun i => q (i + 1)))) := Out.snoc1 hown1 (by simp only [ic]; rw [h.out])
        have R2 := below_of_append hb hown.row hgrow1
        clear hown hown1 hgrow1 hb
        go_roundw
        case rel => exact ⟨j + 1, _, by omega, by go_num, rfl, by rw [h.out], R2, R1.out⟩
        case measure => simp [intOf]; omega
      · have h := hq.out true false (by assumption) (by assumption)
        rw [dn_no, dn_max] at h
        have h := Lib.hid h
        have R1 : Hid (Out w1 W.heap.size 2 1 v1 (j + 1) (ic (fun i => q (i + 1)))) := Out.snoc1 hown1 (by simp only [ic]; rw [h.out])
        have R2 := below_of_append hb hown.row hgrow1
        clear hown hown1 hgrow1 hb
        go_roundw
        case rel => exact ⟨j + 1, _, by omega, by go_num, rfl, by rw [h.out], R2, R1.out⟩
        case measure => simp [intOf]; omega
      · have h := hq.out false true (by assumption) (by assumption)
        rw [dn_max, dn_no] at h
        have h := Lib.hid h
        have R1 : Hid (Out w1 W.heap.size 2 1 v1 (j + 1) (ic (fun i => q (i + 1)))) := Out.snoc1 hown1 (by simp only [ic]; rw [h.out])
        have R2 := below_of_append hb hown.row hgrow1
        clear hown hown1 hgrow1 hb
        go_roundw
        case rel => exact ⟨j + 1, _, by omega, by go_num, rfl, by rw [h.out], R2, R1.out⟩
        case measure => simp [intOf]; omega
      · have h := hq.out false false (by assumption) (by assumption)
        rw [dn_no, dn_no] at h
        have h := Lib.hid h
        have R1 : Hid (Out w1 W.heap.size 2 1 v1 (j + 1) (ic (fun i => q (i + 1)))) := Out.snoc1 hown1 (by simp only [ic]; rw [h.out])
        have R2 := below_of_append hb hown.row hgrow1
        clear hown hown1 hgrow1 hb
        go_roundw
        case rel => exact ⟨j + 1, _, by omega, by go_num, rfl, by rw [h.out], R2, R1.out⟩
        case measure => simp [intOf]; omega
    · obtain rfl : j = n := by omega
      go_wp2
      go_ret
      exact ⟨_, rfl, hb, hown⟩

theorem i_arriving (v : Value) (n : Nat) (z : Nat → Int) (fine : Bool) (W : World) (hs : Sl W v 1 n (ic z)) : Calls Try.prog 41 #[v, .bool fine] W fun e W' => e = .returned (.int .i64 (askCode (vArr n z) fine)) ∧ Below W.heap.size W W' := by
  have HA := Lib.hid (fun w => i_ValidArrivals v n z w)
  have HS := hs
  obtain ⟨hn, ao, cap, rfl, hr⟩ := hs
  clear hr
  cases hv : vArr n z <;> cases fine
  all_goals
    rw [hv] at HA
    go_enter Try.func41, Try.ntmps41
    go_wp2_with fail
    refine (HA.out _ HS).mono ?_
    rintro e w1 ⟨rfl, hb1⟩
    go_wp2_with fail
    go_ret
    exact ⟨rfl, hb1⟩

theorem s_l20Ask (v : Value) (n : Nat) (z : Nat → Int) (ev se : Int) (W : World) (hs : Sl W v 1 n (ic z)) : Calls Try.prog 43 #[v, .int .i64 ev, .int .i64 se] W fun e W' => e = .returned (.int .i64 (askCode (vArr n z) (inB ev 1 60 && inB se 1 1000))) ∧ Below W.heap.size W W' := by
  have HA := Lib.hid (fun w => s_l20Ok v n z w)
  have HS := hs
  obtain ⟨hn, ao, cap, rfl, hr⟩ := hs
  clear hr
  rcases and2_cases (inB ev 1 60) (inB se 1 1000) with ⟨h1, HV⟩ | ⟨h1, h2, HV⟩ | ⟨h1, h2, HV⟩
  all_goals
    cases hv : vArr n z
    all_goals
      rw [hv] at HA
      rw [HV.out]
      go_enter Try.func43, Try.ntmps43
      go_wp2_with fail
      refine (HA.out _ HS).mono ?_
      rintro e w1 ⟨rfl, hb1⟩
      go_wp2_with (first | (go_at_call 76; refine (s_l20Every _ _).mono ?_; rintro e w' ⟨rfl, rfl⟩) | (go_at_call 39; refine (s_l20Seats _ _).mono ?_; rintro e w' ⟨rfl, rfl⟩))
      go_ret
      exact ⟨rfl, hb1⟩

def quN (n : Nat) (z : Nat → Int) (b : Bool) : Nat := if askCode (vArr n z) b = 0 then n else 0
theorem quN_no {n : Nat} {z : Nat → Int} {b : Bool} {c : Int} (h : askCode (vArr n z) b = c) (hc : c = 1 ∨ c = 2) : quN n z b = 0 := by unfold quN; rw [if_neg (by omega)]
theorem quN_yes {n : Nat} {z : Nat → Int} {b : Bool} (h : askCode (vArr n z) b = 0) : quN n z b = n := by unfold quN; rw [if_pos h]
theorem quN_le (n : Nat) (z : Nat → Int) (b : Bool) (hn : n ≤ 17592186044416) : quN n z b ≤ 17592186044416 := by unfold quN; split <;> omega
attribute [irreducible] quN
def QueuesPost (n : Nat) (z : Nat → Int) (ev se : Int) (W : World) (e : Ending) (W' : World) : Prop :=
  ∃ g, e = .returned (.tuple #[g, .int .i64 (askCode (vArr n z) (inB ev 1 60 && inB se 1 1000))]) ∧ Below W.heap.size W W' ∧ Out W' W.heap.size 2 1 g (quN n z (inB ev 1 60 && inB se 1 1000)) (ic (fun i => qu z ev se 0 (i + 1)))

theorem i_QueuesOf (v : Value) (n : Nat) (z : Nat → Int) (ev se : Int) (W : World) (hs : Sl W v 1 n (ic z)) : Calls Try.prog 20 #[v, .int .i64 ev, .int .i64 se] W (QueuesPost n z ev se W) := by
  have HA := Lib.hid (fun w => i_arriving v n z (inB ev 1 60 && inB se 1 1000) w)
  have HQ := Lib.hid (fun w => i_queues v n z ev se 0 w)
  have HS := hs
  obtain ⟨hn, ao, cap, rfl, hr⟩ := hs
  clear hr
  unfold QueuesPost
  rcases ask_cases (vArr n z) (inB ev 1 60 && inB se 1 1000) with ⟨c, hc, hc1, -⟩ | ⟨hv, hb, hc⟩
  · have hq := quN_no hc hc1
    rw [hq, hc]
    rw [hc] at HA
    clear hc
    rcases and2_cases (inB ev 1 60) (inB se 1 1000) with ⟨h1, HV⟩ | ⟨h1, h2, HV⟩ | ⟨h1, h2, HV⟩
    all_goals
      rw [HV.out] at HA
      clear hq
      rcases hc1 with rfl | rfl
      all_goals
        go_enter Try.func20, Try.ntmps20
        go_wp2_with (first | (go_at_call 45; refine (i_isEvery _ _).mono ?_; rintro e w' ⟨rfl, rfl⟩) | (go_at_call 46; refine (i_isSeats _ _).mono ?_; rintro e w' ⟨rfl, rfl⟩) | (go_at_call 41; refine (HA.out _ HS).mono ?_; rintro e w1 ⟨rfl, hb1⟩))
        refine bodyPost_ret (results_tmp2 rfl _ _ _) rfl ⟨_, rfl, hb1, Out.nil _ _ _ _ _⟩
  · rw [quN_yes hc, hc]
    rw [hc] at HA
    rw [hb] at HA
    clear hc
    rw [Bool.and_eq_true] at hb
    obtain ⟨h1, h2⟩ := hb
    have b1 := inB_out h1
    have b2 := inB_out h2
    obtain ⟨n1, n2, HZ⟩ := vArr_out hv
    have HZ := Lib.hid HZ
    clear hv
    go_enter Try.func20, Try.ntmps20
    go_wp2_with (first | (go_at_call 45; refine (i_isEvery _ _).mono ?_; rintro e w' ⟨rfl, rfl⟩) | (go_at_call 46; refine (i_isSeats _ _).mono ?_; rintro e w' ⟨rfl, rfl⟩) | (go_at_call 41; refine (HA.out _ HS).mono ?_; rintro e w1 ⟨rfl, hb1⟩))
    refine (HQ.out _ (HS.kept hb1) n1 n2 HZ b1 b2).mono ?_
    rintro e w2 ⟨g, rfl, hb2, ho2⟩
    go_wp2_with fail
    refine bodyPost_ret (results_tmp2 rfl _ _ _) rfl ⟨_, rfl, kept_trans hb1 hb2, ho2.base_le hb1.size⟩

theorem s_QueuesOf (v : Value) (n : Nat) (z : Nat → Int) (ev se : Int) (W : World) (hs : Sl W v 1 n (ic z)) : Calls Try.prog 19 #[v, .int .i64 ev, .int .i64 se] W (QueuesPost n z ev se W) := by
  have HA := Lib.hid (fun w => s_l20Ask v n z ev se w)
  have HQ := Lib.hid (fun w => s_l20Queues v n z ev se 0 w)
  have HS := hs
  obtain ⟨hn, ao, cap, rfl, hr⟩ := hs
  clear hr
  unfold QueuesPost
  rcases ask_cases (vArr n z) (inB ev 1 60 && inB se 1 1000) with ⟨c, hc, hc1, -⟩ | ⟨hv, hb, hc⟩
  · have hq := quN_no hc hc1
    rw [hq, hc]
    rw [hc] at HA
    clear hc hq
    rcases hc1 with rfl | rfl
    all_goals
      go_enter Try.func19, Try.ntmps19
      go_wp2_with fail
      refine (HA.out _ HS).mono ?_
      rintro e w1 ⟨rfl, hb1⟩
      go_wp2_with fail
      refine bodyPost_ret (results_tmp2 rfl _ _ _) rfl ⟨_, rfl, hb1, Out.nil _ _ _ _ _⟩
  · rw [quN_yes hc, hc]
    rw [hc] at HA
    clear hc
    rw [Bool.and_eq_true] at hb
    obtain ⟨h1, h2⟩ := hb
    have b1 := inB_out h1
    have b2 := inB_out h2
    obtain ⟨n1, n2, HZ⟩ := vArr_out hv
    have HZ := Lib.hid HZ
    clear hv h1 h2
    go_enter Try.func19, Try.ntmps19
    go_wp2_with fail
    refine (HA.out _ HS).mono ?_
    rintro e w1 ⟨rfl, hb1⟩
    go_wp2_with fail
    refine (HQ.out _ (HS.kept hb1) n1 n2 HZ b1 b2).mono ?_
    rintro e w2 ⟨g, rfl, hb2, ho2⟩
    go_wp2_with fail
    refine bodyPost_ret (results_tmp2 rfl _ _ _) rfl ⟨_, rfl, kept_trans hb1 hb2, ho2.base_le hb1.size⟩

theorem l_QueuesOf {W : World} (v : Value) (n : Nat) (z : Nat → Int) (hs : Sl W v 1 n (ic z)) (_hz : ∀ i, i < n → -9223372036854775808 ≤ z i ∧ z i ≤ 9223372036854775807) (ev se : Int) : Calls Try.prog 4 #[v, .int .i64 ev, .int .i64 se] W (Truly W) :=
  l_QueuesOf_of v n z ev se hs _ _ (quN_le n z _ hs.1) _ (fun w q h => s_QueuesOf q n z ev se w h) (fun w q h => i_QueuesOf q n z ev se w h)

end Go.Proofs.Ytobpeiimiglknaa
