/- Contracts on queues. -/
import Derived.Test.YtobpeiimiglknaaFuncs
namespace Go.Proofs.Ytobpeiimiglknaa
open Go.RowKit Go.Deep

def vShare (one two seats : Int) : Bool := inB one 0 100000 && inB two 0 100000 && inB seats 1 1000
def share (one two seats : Int) : Int × Int × Int :=
  if vShare one two seats then
    if one + two = 0 then (0, 0, 0)
    else if seats * one / (one + two) + seats * two / (one + two) < seats then
      if two ≤ one then (min (seats * one / (one + two) + 1) one, min (seats * two / (one + two)) two, 0)
      else (min (seats * one / (one + two)) one, min (seats * two / (one + two) + 1) two, 0)
    else (min (seats * one / (one + two)) one, min (seats * two / (one + two)) two, 0)
  else (0, 0, 2)

theorem share_no {one two seats : Int} (h : ¬ vShare one two seats = true) :
    (inB one 0 100000 = false ∧ Hid (share one two seats = (0, 0, 2))) ∨ (inB one 0 100000 = true ∧ inB two 0 100000 = false ∧ Hid (share one two seats = (0, 0, 2))) ∨
      (inB one 0 100000 = true ∧ inB two 0 100000 = true ∧ inB seats 1 1000 = false ∧ Hid (share one two seats = (0, 0, 2))) := by
  have HF : Hid (share one two seats = (0, 0, 2)) := by unfold share; rw [if_neg h]; rfl
  unfold vShare at h
  cases h1 : inB one 0 100000 <;> cases h2 : inB two 0 100000 <;> cases h3 : inB seats 1 1000 <;> simp_all
theorem share_zero {one two seats : Int} (h : vShare one two seats = true) (h0 : one + two = 0) :
    one = 0 ∧ two = 0 ∧ inB one 0 100000 = true ∧ inB two 0 100000 = true ∧ inB seats 1 1000 = true ∧ share one two seats = (0, 0, 0) := by
  have h' := h
  simp only [vShare, Bool.and_eq_true, inB_iff] at h'
  refine ⟨by omega, by omega, inB_iff.2 h'.1.1, inB_iff.2 h'.1.2, inB_iff.2 h'.2, ?_⟩
  unfold share; rw [if_pos h, if_pos h0]
theorem share_yes {one two seats : Int} (h : vShare one two seats = true) (h0 : ¬ one + two = 0) :
    ((seats * one / (one + two) + seats * two / (one + two) < seats ∧ two ≤ one ∧ Hid (share one two seats = (min (seats * one / (one + two) + 1) one, min (seats * two / (one + two)) two, 0))) ∨
    (seats * one / (one + two) + seats * two / (one + two) < seats ∧ one < two ∧ Hid (share one two seats = (min (seats * one / (one + two)) one, min (seats * two / (one + two) + 1) two, 0))) ∨
    (seats ≤ seats * one / (one + two) + seats * two / (one + two) ∧ Hid (share one two seats = (min (seats * one / (one + two)) one, min (seats * two / (one + two)) two, 0)))) := by
  have HF : share one two seats = share one two seats := rfl
  rw [show share one two seats = _ from rfl]
  unfold share
  rw [if_pos h, if_neg h0]
  by_cases hs : seats * one / (one + two) + seats * two / (one + two) < seats
  · by_cases hg : two ≤ one
    · exact .inl ⟨hs, hg, by rw [if_pos hs, if_pos hg]; rfl⟩
    · exact .inr (.inl ⟨hs, by omega, by rw [if_pos hs, if_neg hg]; rfl⟩)
  · exact .inr (.inr ⟨by omega, by rw [if_neg hs]; rfl⟩)
theorem share_facts {one two seats : Int} (h : vShare one two seats = true) (_h0 : ¬ one + two = 0) :
    inB one 0 100000 = true ∧ inB two 0 100000 = true ∧ inB seats 1 1000 = true ∧ 0 ≤ one ∧ one ≤ 100000 ∧ 0 ≤ two ∧ two ≤ 100000 ∧ 1 ≤ seats ∧ seats ≤ 1000 ∧
    0 ≤ seats * one ∧ seats * one ≤ 100000000 ∧ 0 ≤ seats * two ∧ seats * two ≤ 100000000 ∧ 0 ≤ seats * one / (one + two) ∧ seats * one / (one + two) ≤ 100000000 ∧ 0 ≤ seats * two / (one + two) ∧ seats * two / (one + two) ≤ 100000000 := by
  have h' := h
  simp only [vShare, Bool.and_eq_true, inB_iff] at h'
  obtain ⟨⟨⟨a0, a1⟩, b0, b1⟩, c0, c1⟩ := h'
  have m1 := mul_bd (show 0 ≤ seats by omega) c1 a0 a1
  have m2 := mul_bd (show 0 ≤ seats by omega) c1 b0 b1
  have q1 : 0 ≤ seats * one / (one + two) := Int.ediv_nonneg m1.1 (by omega)
  have q2 : seats * one / (one + two) ≤ seats * one := Int.ediv_le_self _ m1.1
  have q3 : 0 ≤ seats * two / (one + two) := Int.ediv_nonneg m2.1 (by omega)
  have q4 : seats * two / (one + two) ≤ seats * two := Int.ediv_le_self _ m2.1
  exact ⟨inB_yes a0 a1, inB_yes b0 b1, inB_yes c0 c1, a0, a1, b0, b1, c0, c1, m1.1, by omega, m2.1, by omega, q1, by omega, q3, by omega⟩

def vArr (n : Nat) (z : Nat → Int) : Bool := decide (1 ≤ n ∧ n ≤ 60) && allTo (fun i => inB (z i) 0 1000) n

theorem i_ValidArrivals1 (x : Int) (W : World) : Calls Try.prog 88 #[.int .i64 x] W fun e W' => e = .returned (.bool (!inB x 0 1000)) ∧ Below W.heap.size W W' := by
  go_enter Try.func88, Try.ntmps88
  go_wp2_with (first | (go_at_call 89; refine (i_isArrival _ _).mono ?_; rintro e w' ⟨rfl, rfl⟩))
  go_ret
  exact ⟨rfl, (by repeat (first | assumption | exact Below.refl _ _ | refine kept_drew ?_ | refine kept_drewN ?_ _ | refine kept_alloc ?_ _ | refine kept_set ?_ ?_ _ | (simp; done) | (simp; omega) | refine kept_trans ?_ (by assumption)))⟩

theorem i_ValidArrivals (v : Value) (n : Nat) (z : Nat → Int) (W : World) (hs : Sl W v 1 n (ic z)) : Calls Try.prog 75 #[v] W fun e W' => e = .returned (.bool (vArr n z)) ∧ Below W.heap.size W W' := by
  have hp : Answers W 88 #[] n (ic z) (fun i => !inB (z i) 0 1000) := ⟨enters Try.func88 (by kernel_rfl) rfl, fun i _ w _ => i_ValidArrivals1 (z i) w⟩
  have hc := Lib.hid (containsFunc_ints 88 #[] _ v n z W hs hp)
  clear hp
  obtain ⟨hn, ao, cap, rfl, hr⟩ := hs
  clear hr
  have HV : Hid (∀ b, decide (1 ≤ n ∧ n ≤ 60) = b → vArr n z = (b && allTo (fun i => inB (z i) 0 1000) n)) := by intro b hb; unfold vArr; rw [hb]
  by_cases h1 : 1 ≤ n
  · by_cases h2 : n ≤ 60
    · go_enter Try.func75, Try.ntmps75
      go_wp2_with (go_at_call 78; refine hc.out.mono ?_; rintro e w1 ⟨rfl, hb1⟩)
      go_ret
      exact ⟨by rw [HV.out true (by simp; omega)]; simp, hb1⟩
    · go_enter Try.func75, Try.ntmps75
      go_wp2
      go_ret
      exact ⟨by rw [HV.out false (by simp; omega)]; rfl, (by repeat (first | assumption | exact Below.refl _ _ | refine kept_drew ?_ | refine kept_drewN ?_ _ | refine kept_alloc ?_ _ | refine kept_set ?_ ?_ _ | (simp; done) | (simp; omega) | refine kept_trans ?_ (by assumption)))⟩
  · go_enter Try.func75, Try.ntmps75
    go_wp2
    go_ret
    exact ⟨by rw [HV.out false (by simp; omega)]; rfl, (by repeat (first | assumption | exact Below.refl _ _ | refine kept_drew ?_ | refine kept_drewN ?_ _ | refine kept_alloc ?_ _ | refine kept_set ?_ ?_ _ | (simp; done) | (simp; omega) | refine kept_trans ?_ (by assumption)))⟩

theorem s_l20Ok (v : Value) (n : Nat) (z : Nat → Int) (W : World) (hs : Sl W v 1 n (ic z)) : Calls Try.prog 38 #[v] W fun e W' => e = .returned (.bool (vArr n z)) ∧ Below W.heap.size W W' := by
  have HV : Hid (∀ b, decide (1 ≤ n ∧ n ≤ 60) = b → vArr n z = (b && allTo (fun i => inB (z i) 0 1000) n)) := by intro b hb; unfold vArr; rw [hb]
  obtain ⟨hn, ao, cap, rfl, hr⟩ := hs
  rcases hr with h0 | ⟨b, off, rfl, hr⟩
  · have h0' : n ≤ 0 := by omega
    clear h0
    go_enter Try.func38, Try.ntmps38
    go_wp2
    refine wp_loop_rounds 1 ?_
    rw [rounds_succ]
    go_wp2
    go_ret
    exact ⟨by rw [HV.out false (by simp; omega)]; rfl, (by repeat (first | assumption | exact Below.refl _ _ | refine kept_drew ?_ | refine kept_drewN ?_ _ | refine kept_alloc ?_ _ | refine kept_set ?_ ?_ _ | (simp; done) | (simp; omega) | refine kept_trans ?_ (by assumption)))⟩
  · go_enter Try.func38, Try.ntmps38
    go_wp2
    go_loopw [3] (fun i wr => ∃ k : Nat, k ≤ n ∧ i = .int .i64 k ∧ Below W.heap.size W wr ∧ Hid (∀ i, i < k → inB (z i) 0 1000 = true)) (fun i _ => n - (intOf i).toNat)
    case atStart => exact ⟨0, Nat.zero_le _, rfl, (by repeat (first | assumption | exact Below.refl _ _ | refine kept_drew ?_ | refine kept_drewN ?_ _ | refine kept_alloc ?_ _ | refine kept_set ?_ ?_ _ | (simp; done) | (simp; omega) | refine kept_trans ?_ (by assumption))), fun i hi => by omega⟩
    case round =>
      obtain ⟨k, hk, rfl, hb, hno⟩ := hrel
      by_cases hlt : k < n
      · have hs := (hr.kept hb).cell (i := k) (by omega)
        simp only [ic] at hs
        clear hr
        cases hpk : inB (z k) 0 1000
        · have HN := Lib.hid (allTo_no (p := fun i => inB (z i) 0 1000) hlt hpk)
          go_wp2_with (go_at_call 74; refine (s_l00In _ _ _ _).mono ?_; rintro e w' ⟨rfl, rfl⟩)
          go_ret
          exact ⟨by rw [HV.out _ rfl, HN.out]; simp, (by repeat (first | assumption | exact Below.refl _ _ | refine kept_drew ?_ | refine kept_drewN ?_ _ | refine kept_alloc ?_ _ | refine kept_set ?_ ?_ _ | (simp; done) | (simp; omega) | refine kept_trans ?_ (by assumption)))⟩
        · have HN : Hid (∀ i, i < k + 1 → inB (z i) 0 1000 = true) := fun i hi => by
            by_cases e : i = k
            · rw [e]; exact hpk
            · exact hno.out i (by omega)
          go_wp2_with (go_at_call 74; refine (s_l00In _ _ _ _).mono ?_; rintro e w' ⟨rfl, rfl⟩)
          go_roundw
          case rel => exact ⟨k + 1, by omega, by go_num, (by repeat (first | assumption | exact Below.refl _ _ | refine kept_drew ?_ | refine kept_drewN ?_ _ | refine kept_alloc ?_ _ | refine kept_set ?_ ?_ _ | (simp; done) | (simp; omega) | refine kept_trans ?_ (by assumption))), HN⟩
          case measure => simp [intOf]; omega
      · have HN := Lib.hid (allTo_yes (p := fun i => inB (z i) 0 1000) (n := n) (fun i hi => hno.out i (by omega)))
        rcases (show (1 ≤ n ∧ n ≤ 60) ∨ n < 1 ∨ 60 < n by omega) with ⟨h1, h2⟩ | h1 | h1
        · have HD := Lib.hid (HV.out true (by simp; omega))
          go_wp2
          go_ret
          exact ⟨by rw [HD.out, HN.out]; exact ret_bool (by simp <;> omega), hb⟩
        · have HD := Lib.hid (HV.out false (by simp; omega))
          go_wp2
          go_ret
          exact ⟨by rw [HD.out]; exact ret_bool (by simp <;> omega), hb⟩
        · have HD := Lib.hid (HV.out false (by simp; omega))
          go_wp2
          go_ret
          exact ⟨by rw [HD.out]; exact ret_bool (by simp <;> omega), hb⟩

end Go.Proofs.Ytobpeiimiglknaa
