/- Contracts on queues. -/
import Derived.Test.YtelgkgbglomcnaaFuncs
namespace Go.Proofs.Ytelgkgbglomcnaa
open Go.RowKit Go.Deep

def vShare (one two seats : Int) : Bool := inB one 0 100000 && inB two 0 100000 && inB seats 1 1000
def share (one two seats : Int) : Int × Int × Int :=
  if vShare one two seats then
    if one + two = 0 then (0, 0, 0)
    else if seats * one / (one + two) + seats * two / (one + two) < seats then
      if two ≤ one then (min (seats * one / (one + two) + 1) one, min (seats * two / (one + two)) two, 0)
      else (min (seats * one / (one + two)) one, min (seats * two / (one + two) + 1) two, 0)
    else (min (seats * one / (one + two)) one, min (seats * two / (one + two)) two, 0)
  else (0, 0, 2)

theorem mul_bd {x y a b : Int} (h0 : 0 ≤ x) (h1 : x ≤ a) (h2 : 0 ≤ y) (h3 : y ≤ b) : 0 ≤ x * y ∧ x * y ≤ a * b :=
  ⟨Int.mul_nonneg h0 h2, Int.mul_le_mul h1 h3 h2 (by omega)⟩

theorem share_no {one two seats : Int} (h : ¬ vShare one two seats = true) :
    (inB one 0 100000 = false ∧ Hid (share one two seats = (0, 0, 2))) ∨ (inB one 0 100000 = true ∧ inB two 0 100000 = false ∧ Hid (share one two seats = (0, 0, 2))) ∨
      (inB one 0 100000 = true ∧ inB two 0 100000 = true ∧ inB seats 1 1000 = false ∧ Hid (share one two seats = (0, 0, 2))) := by
  have HF : Hid (share one two seats = (0, 0, 2)) := by unfold share; rw [if_neg h]; rfl
  unfold vShare at h
  cases h1 : inB one 0 100000 <;> cases h2 : inB two 0 100000 <;> cases h3 : inB seats 1 1000 <;> simp_all
theorem share_zero {one two seats : Int} (h : vShare one two seats = true) (h0 : one + two = 0) :
    one = 0 ∧ two = 0 ∧ inB one 0 100000 = true ∧ inB two 0 100000 = true ∧ inB seats 1 1000 = true ∧ share one two seats = (0, 0, 0) := by
  have h' := h
  simp only [vShare, Bool.and_eq_true, inB_iff] at h'
  refine ⟨by omega, by omega, inB_iff.2 h'.1.1, inB_iff.2 h'.1.2, inB_iff.2 h'.2, ?_⟩
  unfold share; rw [if_pos h, if_pos h0]
theorem share_yes {one two seats : Int} (h : vShare one two seats = true) (h0 : ¬ one + two = 0) :
    ((seats * one / (one + two) + seats * two / (one + two) < seats ∧ two ≤ one ∧ Hid (share one two seats = (min (seats * one / (one + two) + 1) one, min (seats * two / (one + two)) two, 0))) ∨
    (seats * one / (one + two) + seats * two / (one + two) < seats ∧ one < two ∧ Hid (share one two seats = (min (seats * one / (one + two)) one, min (seats * two / (one + two) + 1) two, 0))) ∨
    (seats ≤ seats * one / (one + two) + seats * two / (one + two) ∧ Hid (share one two seats = (min (seats * one / (one + two)) one, min (seats * two / (one + two)) two, 0)))) := by
  have HF : share one two seats = share one two seats := rfl
  rw [show share one two seats = _ from rfl]
  unfold share
  rw [if_pos h, if_neg h0]
  by_cases hs : seats * one / (one + two) + seats * two / (one + two) < seats
  · by_cases hg : two ≤ one
    · exact .inl ⟨hs, hg, by rw [if_pos hs, if_pos hg]; rfl⟩
    · exact .inr (.inl ⟨hs, by omega, by rw [if_pos hs, if_neg hg]; rfl⟩)
  · exact .inr (.inr ⟨by omega, by rw [if_neg hs]; rfl⟩)
theorem share_facts {one two seats : Int} (h : vShare one two seats = true) (_h0 : ¬ one + two = 0) :
    inB one 0 100000 = true ∧ inB two 0 100000 = true ∧ inB seats 1 1000 = true ∧ 0 ≤ one ∧ one ≤ 100000 ∧ 0 ≤ two ∧ two ≤ 100000 ∧ 1 ≤ seats ∧ seats ≤ 1000 ∧
    0 ≤ seats * one ∧ seats * one ≤ 100000000 ∧ 0 ≤ seats * two ∧ seats * two ≤ 100000000 ∧ 0 ≤ seats * one / (one + two) ∧ seats * one / (one + two) ≤ 100000000 ∧ 0 ≤ seats * two / (one + two) ∧ seats * two / (one + two) ≤ 100000000 := by
  have h' := h
  simp only [vShare, Bool.and_eq_true, inB_iff] at h'
  obtain ⟨⟨⟨a0, a1⟩, b0, b1⟩, c0, c1⟩ := h'
  have m1 := mul_bd (show 0 ≤ seats by omega) c1 a0 a1
  have m2 := mul_bd (show 0 ≤ seats by omega) c1 b0 b1
  have q1 : 0 ≤ seats * one / (one + two) := Int.ediv_nonneg m1.1 (by omega)
  have q2 : seats * one / (one + two) ≤ seats * one := Int.ediv_le_self _ m1.1
  have q3 : 0 ≤ seats * two / (one + two) := Int.ediv_nonneg m2.1 (by omega)
  have q4 : seats * two / (one + two) ≤ seats * two := Int.ediv_le_self _ m2.1
  exact ⟨inB_yes a0 a1, inB_yes b0 b1, inB_yes c0 c1, a0, a1, b0, b1, c0, c1, m1.1, by omega, m2.1, by omega, q1, by omega, q3, by omega⟩

theorem s_ShareSeats (one two seats : Int) (W : World) : Calls Try.prog 26 #[.int .i64 one, .int .i64 two, .int .i64 seats] W fun e W' => e = .returned (.tuple #[.int .i64 (share one two seats).1, .int .i64 (share one two seats).2.1, .int .i64 (share one two seats).2.2]) ∧ Below W.heap.size W W' := by
  by_cases hv : vShare one two seats = true
  · by_cases h0 : one + two = 0
    · obtain ⟨e1, e2, i1, i2, i3, HF0⟩ := share_zero hv h0
      have HF := Lib.hid HF0
      clear HF0 hv h0
      subst e1 e2
      go_enter Try.func26, Try.ntmps26
      go_wp2_with (first | (go_at_call 60; refine (s_l20Limit _ _).mono ?_; rintro e w' ⟨rfl, rfl⟩) | (go_at_call 61; refine (s_l20Seats _ _).mono ?_; rintro e w' ⟨rfl, rfl⟩))
      go_ret3
      exact ⟨by rw [HF.out]; rfl, (by repeat (first | assumption | exact Below.refl _ _ | refine kept_drew ?_ | refine kept_drewN ?_ _ | refine kept_alloc ?_ _ | refine kept_set ?_ ?_ _ | (simp; done) | (simp; omega) | refine kept_trans ?_ (by assumption)))⟩
    · obtain ⟨i1, i2, i3, a0, a1, b0, b1, c0, c1, m0, m1, m2, m3, q0, q1, q2, q3⟩ := share_facts hv h0
      have g0 : 1 ≤ one + two := by omega
      rcases share_yes hv h0 with ⟨hs, hg, HF⟩ | ⟨hs, hg, HF⟩ | ⟨hs, HF⟩
      all_goals
        clear hv h0
        go_enter Try.func26, Try.ntmps26
        go_wp2_with (first | (go_at_call 60; refine (s_l20Limit _ _).mono ?_; rintro e w' ⟨rfl, rfl⟩) | (go_at_call 61; refine (s_l20Seats _ _).mono ?_; rintro e w' ⟨rfl, rfl⟩) | (go_at_call 62; refine (s_l00Min _ _ _).mono ?_; rintro e w' ⟨rfl, rfl⟩))
        go_ret3
        exact ⟨by rw [HF.out]; rfl, (by repeat (first | assumption | exact Below.refl _ _ | refine kept_drew ?_ | refine kept_drewN ?_ _ | refine kept_alloc ?_ _ | refine kept_set ?_ ?_ _ | (simp; done) | (simp; omega) | refine kept_trans ?_ (by assumption)))⟩
  · rcases share_no hv with ⟨i1, HF⟩ | ⟨i1, i2, HF⟩ | ⟨i1, i2, i3, HF⟩
    all_goals
      clear hv
      go_enter Try.func26, Try.ntmps26
      go_wp2_with (first | (go_at_call 60; refine (s_l20Limit _ _).mono ?_; rintro e w' ⟨rfl, rfl⟩) | (go_at_call 61; refine (s_l20Seats _ _).mono ?_; rintro e w' ⟨rfl, rfl⟩) | (go_at_call 62; refine (s_l00Min _ _ _).mono ?_; rintro e w' ⟨rfl, rfl⟩))
      go_ret3
      exact ⟨by rw [HF.out]; rfl, (by repeat (first | assumption | exact Below.refl _ _ | refine kept_drew ?_ | refine kept_drewN ?_ _ | refine kept_alloc ?_ _ | refine kept_set ?_ ?_ _ | (simp; done) | (simp; omega) | refine kept_trans ?_ (by assumption)))⟩

theorem i_ShareSeats (one two seats : Int) (W : World) : Calls Try.prog 27 #[.int .i64 one, .int .i64 two, .int .i64 seats] W fun e W' => e = .returned (.tuple #[.int .i64 (share one two seats).1, .int .i64 (share one two seats).2.1, .int .i64 (share one two seats).2.2]) ∧ Below W.heap.size W W' := by
  by_cases hv : vShare one two seats = true
  · by_cases h0 : one + two = 0
    · obtain ⟨e1, e2, i1, i2, i3, HF0⟩ := share_zero hv h0
      have HF := Lib.hid HF0
      clear HF0 hv h0
      subst e1 e2
      go_enter Try.func27, Try.ntmps27
      go_wp2_with (first | (go_at_call 63; refine (i_isQueue _ _).mono ?_; rintro e w' ⟨rfl, rfl⟩) | (go_at_call 64; refine (i_isSeats _ _).mono ?_; rintro e w' ⟨rfl, rfl⟩))
      go_ret3
      exact ⟨by rw [HF.out]; rfl, (by repeat (first | assumption | exact Below.refl _ _ | refine kept_drew ?_ | refine kept_drewN ?_ _ | refine kept_alloc ?_ _ | refine kept_set ?_ ?_ _ | (simp; done) | (simp; omega) | refine kept_trans ?_ (by assumption)))⟩
    · obtain ⟨i1, i2, i3, a0, a1, b0, b1, c0, c1, m0, m1, m2, m3, q0, q1, q2, q3⟩ := share_facts hv h0
      have g0 : 1 ≤ one + two := by omega
      rcases share_yes hv h0 with ⟨hs, hg, HF⟩ | ⟨hs, hg, HF⟩ | ⟨hs, HF⟩
      all_goals
        clear hv h0
        go_enter Try.func27, Try.ntmps27
        go_wp2_with (first | (go_at_call 63; refine (i_isQueue _ _).mono ?_; rintro e w' ⟨rfl, rfl⟩) | (go_at_call 64; refine (i_isSeats _ _).mono ?_; rintro e w' ⟨rfl, rfl⟩))
        go_quiet (fail)
        go_wp2
        all_goals
          go_ret3
          refine ⟨?_, (by repeat (first | assumption | exact Below.refl _ _ | refine kept_drew ?_ | refine kept_drewN ?_ _ | refine kept_alloc ?_ _ | refine kept_set ?_ ?_ _ | (simp; done) | (simp; omega) | refine kept_trans ?_ (by assumption)))⟩
          rw [HF.out]
          refine ret3 ?_ ?_ rfl
          all_goals
            dsimp only
            omega
  · rcases share_no hv with ⟨i1, HF⟩ | ⟨i1, i2, HF⟩ | ⟨i1, i2, i3, HF⟩
    all_goals
      clear hv
      go_enter Try.func27, Try.ntmps27
      go_wp2_with (first | (go_at_call 63; refine (i_isQueue _ _).mono ?_; rintro e w' ⟨rfl, rfl⟩) | (go_at_call 64; refine (i_isSeats _ _).mono ?_; rintro e w' ⟨rfl, rfl⟩))
      go_ret3
      exact ⟨by rw [HF.out]; rfl, (by repeat (first | assumption | exact Below.refl _ _ | refine kept_drew ?_ | refine kept_drewN ?_ _ | refine kept_alloc ?_ _ | refine kept_set ?_ ?_ _ | (simp; done) | (simp; omega) | refine kept_trans ?_ (by assumption)))⟩

theorem l_ShareSeats (one two seats : Int) (W : World) : Calls Try.prog 7 #[.int .i64 one, .int .i64 two, .int .i64 seats] W (Truly W) := by
  go_enter Try.func7, Try.ntmps7
  go_wp2_with (first | (go_at_call 26; refine (s_ShareSeats _ _ _ _).mono ?_; rintro e w1 ⟨rfl, hb⟩; have hk := kept_trans (by first | assumption | exact kept_alloc (by assumption) _ | exact kept_drew (by assumption) | exact Below.refl _ _) hb; obtain ⟨hc, hf⟩ := bcell hk; have hz := hk.size; try simp at hz) | (go_at_call 27; refine (i_ShareSeats _ _ _ _).mono ?_; rintro e w1 ⟨rfl, hb⟩; have hk := kept_trans (by first | assumption | exact kept_alloc (by assumption) _ | exact kept_drew (by assumption) | exact Below.refl _ _) hb; obtain ⟨hc, hf⟩ := bcell hk; have hz := hk.size; try simp at hz))
  go_ret
  exact ⟨rfl, (by repeat (first | assumption | exact Below.refl _ _ | refine kept_drew ?_ | refine kept_drewN ?_ _ | refine kept_alloc ?_ _ | refine kept_set ?_ ?_ _ | (simp; done) | (simp; omega) | refine kept_trans ?_ (by assumption)))⟩

def vArr (n : Nat) (z : Nat → Int) : Bool := decide (1 ≤ n ∧ n ≤ 60) && allTo (fun i => inB (z i) 0 1000) n

theorem i_ValidArrivals1 (x : Int) (W : World) : Calls Try.prog 54 #[.int .i64 x] W fun e W' => e = .returned (.bool (!inB x 0 1000)) ∧ Below W.heap.size W W' := by
  go_enter Try.func54, Try.ntmps54
  go_wp2_with (first | (go_at_call 55; refine (i_isArrival _ _).mono ?_; rintro e w' ⟨rfl, rfl⟩))
  go_ret
  exact ⟨rfl, (by repeat (first | assumption | exact Below.refl _ _ | refine kept_drew ?_ | refine kept_drewN ?_ _ | refine kept_alloc ?_ _ | refine kept_set ?_ ?_ _ | (simp; done) | (simp; omega) | refine kept_trans ?_ (by assumption)))⟩

theorem i_ValidArrivals (v : Value) (n : Nat) (z : Nat → Int) (W : World) (hs : Sl W v 1 n (ic z)) : Calls Try.prog 22 #[v] W fun e W' => e = .returned (.bool (vArr n z)) ∧ Below W.heap.size W W' := by
  have hp : Answers W 54 #[] n (ic z) (fun i => !inB (z i) 0 1000) := ⟨enters Try.func54 (by kernel_rfl) rfl, fun i _ w _ => i_ValidArrivals1 (z i) w⟩
  have hc := Lib.hid (containsFunc_ints 54 #[] _ v n z W hs hp)
  clear hp
  obtain ⟨hn, ao, cap, rfl, hr⟩ := hs
  clear hr
  have HV : Hid (∀ b, decide (1 ≤ n ∧ n ≤ 60) = b → vArr n z = (b && allTo (fun i => inB (z i) 0 1000) n)) := by intro b hb; unfold vArr; rw [hb]
  by_cases h1 : 1 ≤ n
  · by_cases h2 : n ≤ 60
    · go_enter Try.func22, Try.ntmps22
      go_wp2_with (go_at_call 53; refine hc.out.mono ?_; rintro e w1 ⟨rfl, hb1⟩)
      go_ret
      exact ⟨by rw [HV.out true (by simp; omega)]; simp, hb1⟩
    · go_enter Try.func22, Try.ntmps22
      go_wp2
      go_ret
      exact ⟨by rw [HV.out false (by simp; omega)]; rfl, (by repeat (first | assumption | exact Below.refl _ _ | refine kept_drew ?_ | refine kept_drewN ?_ _ | refine kept_alloc ?_ _ | refine kept_set ?_ ?_ _ | (simp; done) | (simp; omega) | refine kept_trans ?_ (by assumption)))⟩
  · go_enter Try.func22, Try.ntmps22
    go_wp2
    go_ret
    exact ⟨by rw [HV.out false (by simp; omega)]; rfl, (by repeat (first | assumption | exact Below.refl _ _ | refine kept_drew ?_ | refine kept_drewN ?_ _ | refine kept_alloc ?_ _ | refine kept_set ?_ ?_ _ | (simp; done) | (simp; omega) | refine kept_trans ?_ (by assumption)))⟩

theorem s_l20Ok (v : Value) (n : Nat) (z : Nat → Int) (W : World) (hs : Sl W v 1 n (ic z)) : Calls Try.prog 52 #[v] W fun e W' => e = .returned (.bool (vArr n z)) ∧ Below W.heap.size W W' := by
  have HV : Hid (∀ b, decide (1 ≤ n ∧ n ≤ 60) = b → vArr n z = (b && allTo (fun i => inB (z i) 0 1000) n)) := by intro b hb; unfold vArr; rw [hb]
  obtain ⟨hn, ao, cap, rfl, hr⟩ := hs
  rcases hr with h0 | ⟨b, off, rfl, hr⟩
  · have h0' : n ≤ 0 := by omega
    clear h0
    go_enter Try.func52, Try.ntmps52
    go_wp2
    refine wp_loop_rounds 1 ?_
    rw [rounds_succ]
    go_wp2
    go_ret
    exact ⟨by rw [HV.out false (by simp; omega)]; rfl, (by repeat (first | assumption | exact Below.refl _ _ | refine kept_drew ?_ | refine kept_drewN ?_ _ | refine kept_alloc ?_ _ | refine kept_set ?_ ?_ _ | (simp; done) | (simp; omega) | refine kept_trans ?_ (by assumption)))⟩
  · go_enter Try.func52, Try.ntmps52
    go_wp2
    go_loopw [3] (fun i wr => ∃ k : Nat, k ≤ n ∧ i = .int .i64 k ∧ Below W.heap.size W wr ∧ Hid (∀ i, i < k → inB (z i) 0 1000 = true)) (fun i _ => n - (intOf i).toNat)
    case atStart => exact ⟨0, Nat.zero_le _, rfl, (by repeat (first | assumption | exact Below.refl _ _ | refine kept_drew ?_ | refine kept_drewN ?_ _ | refine kept_alloc ?_ _ | refine kept_set ?_ ?_ _ | (simp; done) | (simp; omega) | refine kept_trans ?_ (by assumption))), fun i hi => by omega⟩
    case round =>
      obtain ⟨k, hk, rfl, hb, hno⟩ := hrel
      by_cases hlt : k < n
      · have hs := (hr.kept hb).cell (i := k) (by omega)
        simp only [ic] at hs
        clear hr
        cases hpk : inB (z k) 0 1000
        · have HN := Lib.hid (allTo_no (p := fun i => inB (z i) 0 1000) hlt hpk)
          go_wp2_with (go_at_call 82; refine (s_l00In _ _ _ _).mono ?_; rintro e w' ⟨rfl, rfl⟩)
          go_ret
          exact ⟨by rw [HV.out _ rfl, HN.out]; simp, (by repeat (first | assumption | exact Below.refl _ _ | refine kept_drew ?_ | refine kept_drewN ?_ _ | refine kept_alloc ?_ _ | refine kept_set ?_ ?_ _ | (simp; done) | (simp; omega) | refine kept_trans ?_ (by assumption)))⟩
        · have HN : Hid (∀ i, i < k + 1 → inB (z i) 0 1000 = true) := fun i hi => by
            by_cases e : i = k
            · rw [e]; exact hpk
            · exact hno.out i (by omega)
          go_wp2_with (go_at_call 82; refine (s_l00In _ _ _ _).mono ?_; rintro e w' ⟨rfl, rfl⟩)
          go_roundw
          case rel => exact ⟨k + 1, by omega, by go_num, (by repeat (first | assumption | exact Below.refl _ _ | refine kept_drew ?_ | refine kept_drewN ?_ _ | refine kept_alloc ?_ _ | refine kept_set ?_ ?_ _ | (simp; done) | (simp; omega) | refine kept_trans ?_ (by assumption))), HN⟩
          case measure => simp [intOf]; omega
      · have HN := Lib.hid (allTo_yes (p := fun i => inB (z i) 0 1000) (n := n) (fun i hi => hno.out i (by omega)))
        rcases (show (1 ≤ n ∧ n ≤ 60) ∨ n < 1 ∨ 60 < n by omega) with ⟨h1, h2⟩ | h1 | h1
        · have HD := Lib.hid (HV.out true (by simp; omega))
          go_wp2
          go_ret
          exact ⟨by rw [HD.out, HN.out]; exact ret_bool (by simp <;> omega), hb⟩
        · have HD := Lib.hid (HV.out false (by simp; omega))
          go_wp2
          go_ret
          exact ⟨by rw [HD.out]; exact ret_bool (by simp <;> omega), hb⟩
        · have HD := Lib.hid (HV.out false (by simp; omega))
          go_wp2
          go_ret
          exact ⟨by rw [HD.out]; exact ret_bool (by simp <;> omega), hb⟩

theorem s_ValidArrivals (v : Value) (n : Nat) (z : Nat → Int) (W : World) (hs : Sl W v 1 n (ic z)) : Calls Try.prog 20 #[v] W fun e W' => e = .returned (.bool (vArr n z)) ∧ Below W.heap.size W W' := by
  have hc := fun w => Lib.hid (s_l20Ok v n z w)
  have HS := Lib.hid hs
  obtain ⟨hn, ao, cap, rfl, hr⟩ := hs
  clear hr
  go_enter Try.func20, Try.ntmps20
  go_wp2_with (go_at_call 52; refine (s_l20Ok _ n z _ HS.out).mono ?_; rintro e w1 ⟨rfl, hb1⟩)
  go_ret
  exact ⟨rfl, hb1⟩

theorem l_ValidArrivals {W : World} (v : Value) (n : Nat) (z : Nat → Int) (hs : Sl W v 1 n (ic z)) (_hz : ∀ i, i < n → -9223372036854775808 ≤ z i ∧ z i ≤ 9223372036854775807) : Calls Try.prog 5 #[v] W (Truly W) := by
  have HS := hs
  have hn := hs.1
  obtain ⟨-, ao, cap, rfl, hr⟩ := hs
  clear hr
  by_cases hl : 1048576 < n
  · go_enter Try.func5, Try.ntmps5
    go_wp2_with fail
    go_ret
    exact ⟨rfl, (by repeat (first | assumption | exact Below.refl _ _ | refine kept_drew ?_ | refine kept_drewN ?_ _ | refine kept_alloc ?_ _ | refine kept_set ?_ ?_ _ | (simp; done) | (simp; omega) | refine kept_trans ?_ (by assumption)))⟩
  · go_enter Try.func5, Try.ntmps5
    go_wp2_with fail
    refine (toInt64S_sl _ n z _ HS).mono ?_
    rintro e w' ⟨rfl, hb1, hs1⟩
    rename_i w1
    go_wp2_with fail
    refine (s_ValidArrivals _ n z _ hs1).mono ?_
    rintro e w' ⟨rfl, hb2⟩
    rename_i w2
    have HS2 := (HS.kept hb1).kept hb2
    go_wp2_with fail
    refine (toInt64S_sl _ n z _ HS2).mono ?_
    rintro e w' ⟨rfl, hb3, hs3⟩
    rename_i w3
    go_wp2_with fail
    refine (i_ValidArrivals _ n z _ hs3).mono ?_
    rintro e w' ⟨rfl, hb4⟩
    rename_i w4
    have HS4 := (HS2.kept hb3).kept hb4
    go_wp2_with fail
    refine (toInt64S_sl _ n z _ HS4).mono ?_
    rintro e w' ⟨rfl, hb5, hs5⟩
    rename_i w5
    have HS5 := (hs3.kept hb4).kept hb5
    go_wp2_with fail
    refine (eqInt64S_any _ _ n z _ HS5 hs5).mono ?_
    rintro e w' ⟨rfl, hb6⟩
    go_wp2_with fail
    go_ret
    exact ⟨rfl, (by repeat (first | assumption | exact Below.refl _ _ | refine kept_drew ?_ | refine kept_drewN ?_ _ | refine kept_alloc ?_ _ | refine kept_set ?_ ?_ _ | (simp; done) | (simp; omega) | refine kept_trans ?_ (by assumption)))⟩

end Go.Proofs.Ytelgkgbglomcnaa
