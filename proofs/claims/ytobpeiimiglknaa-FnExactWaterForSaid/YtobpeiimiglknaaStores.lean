/- The stores of a basin behind all trips. -/
import Derived.Test.YtobpeiimiglknaaQueues
import Derived.Test.YtobpeiimiglknaaQLawB
import Derived.Test.YtobpeiimiglknaaBallast
namespace Go.Proofs.Ytobpeiimiglknaa
open Go.RowKit Go.Deep
set_option linter.unusedVariables false

/-- The store behind k trips. -/
def stW (wt : Nat → Int) (add s0 : Int) : Nat → Int
  | 0 => s0
  | k + 1 => if stW wt add s0 k - wt k + add < 10000000 then stW wt add s0 k - wt k + add else 10000000
theorem stW_zero (wt : Nat → Int) (add s0 : Int) : stW wt add s0 0 = s0 := rfl
theorem stW_succ (wt : Nat → Int) (add s0 : Int) (k : Nat) : stW wt add s0 (k + 1) = if stW wt add s0 k - wt k + add < 10000000 then stW wt add s0 k - wt k + add else 10000000 := rfl
theorem stW_bd {wt : Nat → Int} {add s0 : Int} (h0 : 0 ≤ s0 ∧ s0 ≤ 10000000) (ha : 0 ≤ add) : ∀ k, (∀ i, i < k → wt i ≤ stW wt add s0 i) → 0 ≤ stW wt add s0 k ∧ stW wt add s0 k ≤ 10000000
  | 0, _ => h0
  | k + 1, h => by
    have := h k (by omega)
    rw [stW_succ]
    split <;> omega
def stOk (n : Nat) (wt : Nat → Int) (add s0 : Int) : Bool := allTo (fun i => decide (wt i ≤ stW wt add s0 i)) n
theorem stOk_no {n : Nat} {wt : Nat → Int} {add s0 : Int} {k : Nat} (hk : k < n) (h : stW wt add s0 k < wt k) : stOk n wt add s0 = false := allTo_no hk (by simp; omega)
theorem stOk_yes {n : Nat} {wt : Nat → Int} {add s0 : Int} (h : ∀ i, i < n → wt i ≤ stW wt add s0 i) : stOk n wt add s0 = true := allTo_yes (fun i hi => by simp [h i hi])
attribute [irreducible] stW stOk
def stN (ok : Bool) (n : Nat) : Nat := if ok then n else 0
theorem stN_yes (n : Nat) : stN true n = n := rfl
theorem stN_no (n : Nat) : stN false n = 0 := rfl
theorem stN_le (ok : Bool) (n : Nat) (h : n ≤ 17592186044416) : stN ok n ≤ 17592186044416 := by unfold stN; split <;> omega
attribute [irreducible] stN
def StPost (n : Nat) (ok : Bool) (st : Nat → Int) (W : World) (e : Ending) (W' : World) : Prop :=
  ∃ g, e = .returned (.tuple #[g, .bool ok]) ∧ Below W.heap.size W W' ∧ Out W' W.heap.size 2 1 g (stN ok n) (ic (fun i => st (i + 1)))

set_option maxHeartbeats 1000000 in
theorem i_storeAfter (t r s p : Int) (v : Value) (n : Nat) (wt : Nat → Int) (gap : Int) (W : World) (hs : Sl W v 1 n (ic wt)) (hn0 : n ≤ 24) (HZ : Hid (∀ i, i < n → 0 ≤ wt i ∧ wt i ≤ 20000)) (hb : 0 ≤ s ∧ s ≤ 10000000) (hp : 0 ≤ p ∧ p ≤ 1000) (hg : 0 ≤ gap ∧ gap ≤ 1440) :
    Calls Try.prog 64 #[.agg #[.int .i64 t, .int .i64 r, .int .i64 s, .int .i64 p], v, .int .i64 gap] W (StPost n (stOk n wt (p * gap) s) (stW wt (p * gap) s) W) := by
  obtain ⟨i0, hi, hz0, hz1, hz2⟩ := info_parts infoInt
  have hm := mul_bd hp.1 hp.2 hg.1 hg.2
  have HB := Lib.hid (fun k => stW_bd (wt := wt) (add := p * gap) hb hm.1 k)
  have H0 := Lib.hid (stW_zero wt (p * gap) s)
  have H1 := Lib.hid (stW_succ wt (p * gap) s)
  have HN := Lib.hid (fun k => stOk_no (n := n) (wt := wt) (add := p * gap) (s0 := s) (k := k))
  have HY := Lib.hid (stOk_yes (n := n) (wt := wt) (add := p * gap) (s0 := s))
  unfold StPost
  generalize stOk n wt (p * gap) s = ok at *
  generalize stW wt (p * gap) s = st at *
  have q3 : (W.alloc (.cells #[.int .i64 t, .int .i64 r, .int .i64 s, .int .i64 p] 40)).cell? ⟨W.heap.size, 3, none⟩ = some (.int .i64 p) := boxed_at rfl rfl
  have Q3 := Lib.hid q3
  have hsA := hs.kept (kept_alloc (Below.refl _ _) (.cells #[.int .i64 t, .int .i64 r, .int .i64 s, .int .i64 p] 40))
  clear q3
  obtain ⟨hn, ao, cap, rfl, hr⟩ := hsA
  clear hs
  rcases hr with h0 | ⟨g, off, rfl, hr⟩
  · have hok := HY.out (fun i hi => by omega)
    obtain rfl : n = 0 := by omega
    have h0' : (0 : Nat) ≤ 0 := Nat.le_refl _
    subst hok
    go_enter Try.func64, Try.ntmps64
    go_wp2
    refine wp_loop_rounds 1 ?_
    rw [rounds_succ]
    go_wp2
    refine bodyPost_ret (results_tmp2 rfl _ _ _) rfl ⟨_, rfl, (by repeat (first | assumption | exact Below.refl _ _ | refine kept_drew ?_ | refine kept_drewN ?_ _ | refine kept_alloc ?_ _ | refine kept_set ?_ ?_ _ | (simp; done) | (simp; omega) | refine kept_trans ?_ (by assumption))), by rw [stN_yes]; exact Out.nil _ _ _ _ _⟩
  go_enter Try.func64, Try.ntmps64
  go_wp2
  go_loopw [8, 9, 16] (fun v w i wr => ∃ (j : Nat) (u : Value), j ≤ n ∧ i = .int .i64 j ∧ u = v ∧ w = .int .i64 (st j) ∧ Hid (∀ i, i < j → wt i ≤ st i) ∧ Below (W.alloc (.cells #[.int .i64 t, .int .i64 r, .int .i64 s, .int .i64 p] 40)).heap.size (W.alloc (.cells #[.int .i64 t, .int .i64 r, .int .i64 s, .int .i64 p] 40)) wr ∧ Out wr (W.alloc (.cells #[.int .i64 t, .int .i64 r, .int .i64 s, .int .i64 p] 40)).heap.size 2 1 u j (ic (fun i => st (i + 1)))) (fun _ _ i _ => n - (intOf i).toNat)
  case atStart => exact ⟨0, _, Nat.zero_le _, rfl, rfl, by rw [H0.out], fun i hi => absurd hi (by omega), Below.refl _ _, Out.nil _ _ _ _ _⟩
  case round =>
    obtain ⟨j, u, hj, rfl, rfl, rfl, hno, hb2, hown⟩ := hrel
    by_cases hlt : j < n
    · have hs0 := (hr.kept hb2).cell (i := j) (by omega)
      have z1 := HZ.out j hlt
      have b1 := HB.out j hno.out
      have hq := Lib.hid (H1.out j)
      have q3 := cell_keep hb2 Q3.out
      clear hr H0
      simp only [ic] at hs0
      rcases (show st j < wt j ∨ wt j ≤ st j by omega) with hc | hc
      · have HN := Lib.hid (HN.out j hlt hc)
        go_wp2
        refine bodyPost_ret (results_tmp2 rfl _ _ _) rfl ⟨_, by rw [HN.out]; rfl, kept_trans (kept_alloc (Below.refl _ _) _) hb2, by rw [HN.out, stN_no]; exact Out.nil _ _ _ _ _⟩
      · have hN2 : Hid (∀ i, i < j + 1 → wt i ≤ st i) := fun i hi => by
          by_cases e : i = j
          · rw [e]; exact hc
          · exact hno.out i (by omega)
        go_wp2_with (at_builtin; refine wpList_append_own _ rfl _ _ 22 rfl _ 2 i0 _ 1 8 Try.underlying22 hi hz0 hz1 hz2 rfl (by decide) _ _ _ rfl ((hown).row.alloc _) ⟨wr.heap.size, 0, none⟩ 1 1 _ (by rfl) (by rfl) (laid_at (by simp)) (by intro u hu; simp at hu; first | (rcases hu with rfl | rfl <;> rfl) | (subst hu; rfl)) (by simp only [maxLen]; omega) (by omega) (by have hbs := hb2.size; simp at hbs ⊢; omega) ?_; intro v1 w1 hown1 hgrow1 _)
        have R1 : Hid (Out w1 (W.alloc (.cells #[.int .i64 t, .int .i64 r, .int .i64 s, .int .i64 p] 40)).heap.size 2 1 v1 (j + 1) (ic (fun i => st (i + 1)))) := Out.snoc1 hown1 (by simp only [ic]; rw [hq.out])
        have R2 := below_of_append hb2 hown.row hgrow1
        clear hown hown1 hgrow1 hb2
        try go_wp2
        go_roundw
        case rel => exact ⟨j + 1, _, by omega, by go_num, rfl, by rw [hq.out], hN2, R2, R1.out⟩
        case measure => simp [intOf]; omega
    · obtain rfl : j = n := by omega
      have HY := Lib.hid (HY.out hno.out)
      go_wp2
      refine bodyPost_ret (results_tmp2 rfl _ _ _) rfl ⟨_, by rw [HY.out]; rfl, kept_trans (kept_alloc (Below.refl _ _) _) hb2, by rw [HY.out, stN_yes]; exact hown.base_le (by simp)⟩

set_option maxHeartbeats 1000000 in
theorem s_l16Stores (bx : Nat) (t r s p : Int) (v : Value) (n : Nat) (wt : Nat → Int) (gap : Int) (W : World) (hs : Sl W v 1 n (ic wt)) (hn0 : n ≤ 24) (HZ : Hid (∀ i, i < n → 0 ≤ wt i ∧ wt i ≤ 20000)) (hb : 0 ≤ s ∧ s ≤ 10000000) (hp : 0 ≤ p ∧ p ≤ 1000) (hg : 0 ≤ gap ∧ gap ≤ 1440)
    (c2 : W.cell? ⟨bx, 2, none⟩ = some (.int .i64 s)) (c3 : W.cell? ⟨bx, 3, none⟩ = some (.int .i64 p)) :
    Calls Try.prog 60 #[.pointer (some ⟨bx, 0, none⟩), v, .int .i64 gap] W (StPost n (stOk n wt (p * gap) s) (stW wt (p * gap) s) W) := by
  obtain ⟨i0, hi, hz0, hz1, hz2⟩ := info_parts infoInt
  have hm := mul_bd hp.1 hp.2 hg.1 hg.2
  have HB := Lib.hid (fun k => stW_bd (wt := wt) (add := p * gap) hb hm.1 k)
  have H0 := Lib.hid (stW_zero wt (p * gap) s)
  have H1 := Lib.hid (stW_succ wt (p * gap) s)
  have HN := Lib.hid (fun k => stOk_no (n := n) (wt := wt) (add := p * gap) (s0 := s) (k := k))
  have HY := Lib.hid (stOk_yes (n := n) (wt := wt) (add := p * gap) (s0 := s))
  unfold StPost
  generalize stOk n wt (p * gap) s = ok at *
  generalize stW wt (p * gap) s = st at *
  have Q3 := Lib.hid c3
  have c2' := cell_keep (kept_alloc (Below.refl _ _) (.cells #[] 2)) c2
  clear c3
  obtain ⟨hn, ao, cap, rfl, hr⟩ := hs
  rcases hr with h0 | ⟨g, off, rfl, hr⟩
  · have hok := HY.out (fun i hi => by omega)
    obtain rfl : n = 0 := by omega
    have h0' : (0 : Nat) ≤ 0 := Nat.le_refl _
    subst hok
    go_enter Try.func60, Try.ntmps60
    go_wp2
    refine wp_loop_rounds 1 ?_
    rw [rounds_succ]
    go_wp2
    refine bodyPost_ret (results_tmp2 rfl _ _ _) rfl ⟨_, rfl, (by repeat (first | assumption | exact Below.refl _ _ | refine kept_drew ?_ | refine kept_drewN ?_ _ | refine kept_alloc ?_ _ | refine kept_set ?_ ?_ _ | (simp; done) | (simp; omega) | refine kept_trans ?_ (by assumption))), by rw [stN_yes]; exact Out.empty _ _ _ _ _ (Nat.le_refl _)⟩
  go_enter Try.func60, Try.ntmps60
  go_wp2
  clear c2 c2'
  go_loopw [8, 9, 10] (fun v w i wr => ∃ (j : Nat) (u : Value), j ≤ n ∧ i = .int .i64 j ∧ u = v ∧ w = .int .i64 (st j) ∧ Hid (∀ i, i < j → wt i ≤ st i) ∧ Below W.heap.size W wr ∧ Out wr W.heap.size 2 1 u j (ic (fun i => st (i + 1)))) (fun _ _ i _ => n - (intOf i).toNat)
  case atStart => exact ⟨0, _, Nat.zero_le _, rfl, rfl, by rw [H0.out], fun i hi => absurd hi (by omega), (by repeat (first | assumption | exact Below.refl _ _ | refine kept_drew ?_ | refine kept_drewN ?_ _ | refine kept_alloc ?_ _ | refine kept_set ?_ ?_ _ | (simp; done) | (simp; omega) | refine kept_trans ?_ (by assumption))), Out.empty _ _ _ _ _ (Nat.le_refl _)⟩
  case round =>
    obtain ⟨j, u, hj, rfl, rfl, rfl, hno, hb2, hown⟩ := hrel
    by_cases hlt : j < n
    · have hs0 := (hr.kept hb2).cell (i := j) (by omega)
      have z1 := HZ.out j hlt
      have b1 := HB.out j hno.out
      have hq := Lib.hid (H1.out j)
      have q3 := cell_keep hb2 Q3.out
      clear hr H0
      simp only [ic] at hs0
      rcases (show st j < wt j ∨ wt j ≤ st j by omega) with hc | hc
      · have HN := Lib.hid (HN.out j hlt hc)
        go_wp2
        refine bodyPost_ret (results_tmp2 rfl _ _ _) rfl ⟨_, by rw [HN.out]; rfl, hb2, by rw [HN.out, stN_no]; exact Out.nil _ _ _ _ _⟩
      · have hN2 : Hid (∀ i, i < j + 1 → wt i ≤ st i) := fun i hi => by
          by_cases e : i = j
          · rw [e]; exact hc
          · exact hno.out i (by omega)
        have e1 : IntKind.i64.wrap (st j - wt j) = st j - wt j := IntWalk.i64_in _ (by omega)
        have e2 : IntKind.i64.wrap (p * gap) = p * gap := IntWalk.i64_in _ (by omega)
        have e3 : IntKind.i64.wrap (st j - wt j + p * gap) = st j - wt j + p * gap := IntWalk.i64_in _ (by omega)
        have hq1 : Hid (st (j + 1) = min 10000000 (st j - wt j + p * gap)) := by show _ = _; rw [hq.out]; split <;> omega
        have hcall : ∀ w, Calls Try.prog 40 #[.int .i64 10000000, .int .i64 (st j - wt j + p * gap)] w fun e W' => e = .returned (.int .i64 (min 10000000 (st j - wt j + p * gap))) ∧ W' = w := fun w => (s_l00Min _ _ w).mono fun _ _ ⟨he, hw⟩ => ⟨he, hw.symm⟩
        clear hq
        go_wp2_with fail
        go_quiet ((go_at_call 40; exact Calls.quiet_of_same (hcall _)))
        clear e1 e2 e3 hcall
        go_wp2_with (at_builtin; refine wpList_append_own _ rfl _ _ 22 rfl _ 2 i0 _ 1 8 Try.underlying22 hi hz0 hz1 hz2 rfl (by decide) _ _ _ rfl ((hown.kept (kept_drewN (Below.refl _ _) _)).row.alloc _) ⟨wr.heap.size, 0, none⟩ 1 1 _ (by rfl) (by rfl) (laid_at (by simp)) (by intro u hu; simp at hu; first | (rcases hu with rfl | rfl <;> rfl) | (subst hu; rfl)) (by simp only [maxLen]; omega) (by omega) (by have hbs := hb2.size; simp at hbs ⊢; omega) ?_; intro v1 w1 hown1 hgrow1 _)
        have R1 : Hid (Out w1 W.heap.size 2 1 v1 (j + 1) (ic (fun i => st (i + 1)))) := Out.snoc1 hown1 (by simp only [ic]; rw [hq1.out])
        have R2 := below_of_append (kept_drewN hb2 _) (hown.kept (kept_drewN (Below.refl _ _) _)).row hgrow1
        clear hown hown1 hgrow1 hb2
        try go_wp2
        go_roundw
        case rel => exact ⟨j + 1, _, by omega, by go_num, rfl, by rw [hq1.out], hN2, R2, R1.out⟩
        case measure => simp [intOf]; omega
    · obtain rfl : j = n := by omega
      have HY := Lib.hid (HY.out hno.out)
      go_wp2
      refine bodyPost_ret (results_tmp2 rfl _ _ _) rfl ⟨_, by rw [HY.out]; rfl, hb2, by rw [HY.out, stN_yes]; exact hown⟩

def vWat (n : Nat) (wt : Nat → Int) : Bool := decide (n ≤ 24) && allTo (fun i => inB (wt i) 0 20000) n
theorem vWat_out {n : Nat} {wt : Nat → Int} (h : vWat n wt = true) : n ≤ 24 ∧ ∀ i, i < n → 0 ≤ wt i ∧ wt i ≤ 20000 := by
  simp only [vWat, Bool.and_eq_true, decide_eq_true_eq] at h
  exact ⟨h.1, fun i hi => inB_out (allTo_out h.2 i hi)⟩
theorem i_areWaters1 (x : Int) (W : World) : Calls Try.prog 79 #[.int .i64 x] W fun e W' => e = .returned (.bool (!inB x 0 20000)) ∧ Below W.heap.size W W' := by
  go_enter Try.func79, Try.ntmps79
  go_wp2_with (first | (go_at_call 80; refine (i_isTank _ _).mono ?_; rintro e w' ⟨rfl, rfl⟩))
  go_ret
  exact ⟨rfl, (by repeat (first | assumption | exact Below.refl _ _ | refine kept_drew ?_ | refine kept_drewN ?_ _ | refine kept_alloc ?_ _ | refine kept_set ?_ ?_ _ | (simp; done) | (simp; omega) | refine kept_trans ?_ (by assumption)))⟩

theorem i_areWaters (v : Value) (n : Nat) (z : Nat → Int) (W : World) (hs : Sl W v 1 n (ic z)) : Calls Try.prog 62 #[v] W fun e W' => e = .returned (.bool (vWat n z)) ∧ Below W.heap.size W W' := by
  have hp : Answers W 79 #[] n (ic z) (fun i => !inB (z i) 0 20000) := ⟨enters Try.func79 (by kernel_rfl) rfl, fun i _ w _ => i_areWaters1 (z i) w⟩
  have hc := containsFunc_ints 79 #[] _ v n z W hs hp
  clear hp
  simp only [Bool.not_not] at hc
  have hc := Lib.hid hc
  have HV : Hid (vWat n z = (decide (n ≤ 24) && allTo (fun i => inB (z i) 0 20000) n)) := rfl
  generalize vWat n z = vw at *
  generalize allTo (fun i => inB (z i) 0 20000) n = q at hc HV
  obtain ⟨-, ao, cap, rfl, hr⟩ := hs
  clear hr
  rcases (show n ≤ 24 ∨ 24 < n by omega) with h | h
  · have hd : decide (n ≤ 24) = true := by simp; omega
    go_enter Try.func62, Try.ntmps62
    go_wp2_with (first | (go_at_call 78; refine hc.out.mono ?_; rintro e w1 ⟨rfl, hb1⟩))
    go_ret
    exact ⟨by rw [HV.out, hd]; cases q <;> rfl, (by repeat (first | assumption | exact Below.refl _ _ | refine kept_drew ?_ | refine kept_drewN ?_ _ | refine kept_alloc ?_ _ | refine kept_set ?_ ?_ _ | (simp; done) | (simp; omega) | refine kept_trans ?_ (by assumption)))⟩
  · have hd : decide (n ≤ 24) = false := by simp; omega
    go_enter Try.func62, Try.ntmps62
    go_wp2_with (first | (go_at_call 78; refine hc.out.mono ?_; rintro e w1 ⟨rfl, hb1⟩))
    go_ret
    exact ⟨by rw [HV.out, hd]; rfl, (by repeat (first | assumption | exact Below.refl _ _ | refine kept_drew ?_ | refine kept_drewN ?_ _ | refine kept_alloc ?_ _ | refine kept_set ?_ ?_ _ | (simp; done) | (simp; omega) | refine kept_trans ?_ (by assumption)))⟩

theorem s_l16Waters (v : Value) (n : Nat) (z : Nat → Int) (W : World) (hs : Sl W v 1 n (ic z)) : Calls Try.prog 59 #[v] W fun e W' => e = .returned (.bool (vWat n z)) ∧ W = W' := by
  have HV : Hid (vWat n z = (decide (n ≤ 24) && allTo (fun i => inB (z i) 0 20000) n)) := rfl
  generalize vWat n z = vw at *
  obtain ⟨hn, ao, cap, rfl, hr⟩ := hs
  rcases hr with h0 | ⟨g, off, rfl, hr⟩
  · have hv' := HV.out
    rw [allTo_yes (fun i hi => by omega)] at hv'
    have HV := Lib.hid hv'
    clear hv'
    have h24 : n ≤ 24 := by omega
    have h0' : n ≤ 0 := by omega
    clear h0
    go_enter Try.func59, Try.ntmps59
    go_wp2
    refine wp_loop_rounds 1 ?_
    rw [rounds_succ]
    go_wp2
    go_ret
    exact ⟨by rw [HV.out]; exact ret_bool (by simp <;> omega), rfl⟩
  · go_enter Try.func59, Try.ntmps59
    go_wp2
    go_loop [3] (fun i => ∃ k : Nat, k ≤ n ∧ i = .int .i64 k ∧ Hid (∀ i, i < k → inB (z i) 0 20000 = true)) (fun i => n - (intOf i).toNat)
    case atStart => exact ⟨0, Nat.zero_le _, rfl, fun i hi => by omega⟩
    case round =>
      obtain ⟨k, hk, rfl, hno⟩ := hrel
      by_cases hlt : k < n
      · have hs0 := hr.cell (i := k) (by omega)
        simp only [ic] at hs0
        clear hr
        cases hp : inB (z k) 0 20000
        · have HX : Hid (vw = false) := by show _ = _; rw [HV.out, allTo_no hlt hp, Bool.and_false]
          go_wp2_with (go_at_call 77; refine (s_l16Litres _ _).mono ?_; rintro e w' ⟨rfl, rfl⟩)
          go_ret
          exact ⟨by rw [HX.out]; rfl, rfl⟩
        · have HN : Hid (∀ i, i < k + 1 → inB (z i) 0 20000 = true) := fun i hi => by
            by_cases e : i = k
            · rw [e]; exact hp
            · exact hno.out i (by omega)
          go_wp2_with (go_at_call 77; refine (s_l16Litres _ _).mono ?_; rintro e w' ⟨rfl, rfl⟩)
          go_round
          case rel => exact ⟨k + 1, by omega, by go_num, HN⟩
          case measure => simp [intOf]; omega
      · have hv' := HV.out
        rw [allTo_yes (fun i hi => hno.out i (by omega))] at hv'
        have hv := Lib.hid hv'
        clear hv'
        go_wp2
        go_ret
        exact ⟨by rw [hv.out]; exact ret_bool (by simp <;> omega), rfl⟩
attribute [irreducible] vWat

end Go.Proofs.Ytobpeiimiglknaa
