/- The least seats with which no queue is too long. -/
import Derived.Test.YtobpeiimiglknaaSums
namespace Go.Proofs.Ytobpeiimiglknaa
open Go.RowKit Go.Deep
set_option linter.unusedVariables false

def seatP (n : Nat) (z : Nat → Int) (ev lim : Int) : Nat → Bool := fun j => decide (mx (fun i => qu z ev ((j : Int) + 1) 0 (i + 1)) (n - 1) ≤ lim)
def seatIn (P : Nat → Bool) : Int × Int := if firstTo P 1000 < 1000 then ((firstTo P 1000 : Int) + 1, 0) else (0, 3)
theorem seat_at {P : Nat → Bool} {j : Nat} (h : (j : Int) < 1000) (hno : ∀ i, i < j → P i = false) (hy : P j = true) : seatIn P = ((j : Int) + 1, 0) := by
  have h' : j < 1000 := by omega
  unfold seatIn; rw [firstTo_eq (Nat.le_of_lt h') hno (fun _ => hy), if_pos h']
theorem seat_none {P : Nat → Bool} {j : Nat} (h : (1000 : Int) ≤ j) (hno : ∀ i, i < j → P i = false) : seatIn P = (0, 3) := by
  unfold seatIn; rw [firstTo_eq (Nat.le_refl _) (fun i hi => hno i (by omega)) (fun h => absurd h (Nat.lt_irrefl _)), if_neg (Nat.lt_irrefl _)]
def seats (n : Nat) (z : Nat → Int) (ev lim : Int) : Int × Int := if askCode (vArr n z) (inB ev 1 60 && inB lim 0 100000) = 0 then seatIn (seatP n z ev lim) else (0, askCode (vArr n z) (inB ev 1 60 && inB lim 0 100000))
theorem seats_no {n : Nat} {z : Nat → Int} {ev lim c : Int} (h : askCode (vArr n z) (inB ev 1 60 && inB lim 0 100000) = c) (hc : c = 1 ∨ c = 2) : seats n z ev lim = (0, c) := by unfold seats; rw [h, if_neg (by omega)]
theorem seats_yes {n : Nat} {z : Nat → Int} {ev lim : Int} (h : askCode (vArr n z) (inB ev 1 60 && inB lim 0 100000) = 0) : seats n z ev lim = seatIn (seatP n z ev lim) := by unfold seats; rw [if_pos h]
theorem seatP_eq (n : Nat) (z : Nat → Int) (ev lim : Int) (j : Nat) : seatP n z ev lim j = decide (mx (fun i => qu z ev ((j : Int) + 1) 0 (i + 1)) (n - 1) ≤ lim) := rfl
theorem seatP_at (n : Nat) (z : Nat → Int) (ev lim : Int) (s : Int) (h : 1 ≤ s) : seatP n z ev lim (s - 1).toNat = decide (mx (fun i => qu z ev s 0 (i + 1)) (n - 1) ≤ lim) := by
  rw [seatP_eq, show (((s - 1).toNat : Nat) : Int) + 1 = s by omega]
theorem seat_at' {P : Nat → Bool} {s : Int} (h : 1 ≤ s ∧ s ≤ 1000) (hno : ∀ i : Nat, (i : Int) + 1 < s → P i = false) (hy : P (s - 1).toNat = true) : seatIn P = (s, 0) := by
  rw [seat_at (j := (s - 1).toNat) (by omega) (fun i hi => hno i (by omega)) hy]
  congr 1
  omega
theorem seat_none' {P : Nat → Bool} {s : Int} (h : 1000 < s) (hno : ∀ i : Nat, (i : Int) + 1 < s → P i = false) : seatIn P = (0, 3) :=
  seat_none (j := (s - 1).toNat) (by omega) (fun i hi => hno i (by omega))
theorem seat_next {P : Nat → Bool} {s : Int} (hs : 1 ≤ s) (hno : ∀ i : Nat, (i : Int) + 1 < s → P i = false) (h : P (s - 1).toNat = false) : ∀ i : Nat, (i : Int) + 1 < s + 1 → P i = false := fun i hi => by
  by_cases e : (i : Int) + 1 < s
  · exact hno i e
  · rw [show i = (s - 1).toNat by omega]; exact h
attribute [irreducible] seats seatIn seatP

theorem i_LeastSeats (v : Value) (n : Nat) (z : Nat → Int) (ev lim : Int) (W : World) (hs : Sl W v 1 n (ic z)) : Calls Try.prog 28 #[v, .int .i64 ev, .int .i64 lim] W fun e W' => e = .returned (.tuple #[.int .i64 (seats n z ev lim).1, .int .i64 (seats n z ev lim).2]) ∧ Below W.heap.size W W' := by
  have HA := Lib.hid (fun w => i_arriving v n z (inB ev 1 60 && inB lim 0 100000) w)
  have HQ := Lib.hid (fun w se => i_queues v n z ev se 0 w)
  have HS := hs
  obtain ⟨hn, ao, cap, rfl, hr⟩ := hs
  clear hr
  rcases ask_cases (vArr n z) (inB ev 1 60 && inB lim 0 100000) with ⟨c, hc, hc1, -⟩ | ⟨hv, hb, hc⟩
  · have hq := Lib.hid (seats_no hc hc1)
    rw [hq.out]
    rw [hc] at HA
    clear hc hq
    rcases and2_cases (inB ev 1 60) (inB lim 0 100000) with ⟨h1, HV⟩ | ⟨h1, h2, HV⟩ | ⟨h1, h2, HV⟩
    all_goals
      rw [HV.out] at HA
      rcases hc1 with rfl | rfl
      all_goals
        go_enter Try.func28, Try.ntmps28
        go_wp2_with (first | (go_at_call 45; refine (i_isEvery _ _).mono ?_; rintro e w' ⟨rfl, rfl⟩) | (go_at_call 53; refine (i_isQueue _ _).mono ?_; rintro e w' ⟨rfl, rfl⟩) | (go_at_call 41; refine (HA.out _ HS).mono ?_; rintro e w1 ⟨rfl, hb1⟩))
        go_ret2
        exact ⟨rfl, hb1⟩
  · have hx := Lib.hid (seats_yes hc)
    rw [hx.out]
    rw [hc] at HA
    rw [hb] at HA
    clear hc hx
    rw [Bool.and_eq_true] at hb
    obtain ⟨h1, h2⟩ := hb
    have b1 := inB_out h1
    have b2 := inB_out h2
    obtain ⟨n1, n2, HZ⟩ := vArr_out hv
    have HZ := Lib.hid HZ
    have HM := Lib.hid (fun g m w (h : Sl w g 1 n (ic m)) => f_Max g n m w h n1)
    have HP := Lib.hid (seatP_at n z ev lim)
    clear hv
    generalize seatP n z ev lim = P at *
    have HY := Lib.hid (fun s => seat_at' (P := P) (s := s))
    have HN := Lib.hid (fun s => seat_none' (P := P) (s := s))
    have HX := Lib.hid (fun s => seat_next (P := P) (s := s))
    generalize seatIn P = R at *
    go_enter Try.func28, Try.ntmps28
    go_wp2_with (first | (go_at_call 45; refine (i_isEvery _ _).mono ?_; rintro e w' ⟨rfl, rfl⟩) | (go_at_call 53; refine (i_isQueue _ _).mono ?_; rintro e w' ⟨rfl, rfl⟩) | (go_at_call 41; refine (HA.out _ HS).mono ?_; rintro e w1 ⟨rfl, hb1⟩))
    clear h1 h2
    go_loopw [9] (fun v wr => ∃ s : Int, 1 ≤ s ∧ s ≤ 1001 ∧ v = .int .i64 s ∧ Hid (∀ i : Nat, (i : Int) + 1 < s → P i = false) ∧ Below W.heap.size W wr) (fun s _ => (1002 - intOf s).toNat)
    case atStart => exact ⟨1, by omega, by omega, rfl, fun i hi => absurd hi (by omega), hb1⟩
    case round =>
      obtain ⟨s, hj0, hj, rfl, hno, hb⟩ := hrel
      rcases (show s ≤ 1000 ∨ 1000 < s by omega) with hlt | hge
      · have hi1 := inB_yes (n := s) (a := 1) (b := 1000) (by omega) (by omega)
        have hQ := Lib.hid (HQ.out wr s (HS.kept hb) n1 n2 HZ b1 (by omega))
        have hp := HP.out s hj0
        have hY := Lib.hid (HY.out s ⟨hj0, hlt⟩ hno.out)
        have hX := Lib.hid (HX.out s hj0 hno.out)
        generalize hmm : mx (fun i => qu z ev s 0 (i + 1)) (n - 1) = m at *
        have HM2 : Hid (∀ g w, Sl w g 1 n (ic (fun i => qu z ev s 0 (i + 1))) → Calls Try.prog 57 #[g] w fun e W' => e = .returned (.int .i64 m) ∧ w = W') := fun g w h => by have := HM.out g _ w h; rw [hmm] at this; exact this
        clear hmm HM HQ HY HN HP HX
        rcases (show m ≤ lim ∨ lim < m by omega) with hm | hm
        · have hY := Lib.hid (hY.out (by rw [hp]; simp; omega))
          clear hp hX
          go_wp2_with (first | (go_at_call 46; refine (i_isSeats _ _).mono ?_; rintro e w' ⟨rfl, rfl⟩) | (go_at_call 47; refine hQ.out.mono ?_; rintro e w2 ⟨g, rfl, hb2, ho2⟩) | (go_at_call 57; refine (HM2.out _ _ (ho2.sl hn)).mono ?_; rintro e w3 ⟨rfl, rfl⟩))
          go_ret2
          exact ⟨by rw [hY.out]; rfl, kept_trans hb hb2⟩
        · have hp' : P (s - 1).toNat = false := by rw [hp]; simp; omega
          have hN2 := Lib.hid (hX.out hp')
          clear hp hp' hY hX
          go_wp2_with (first | (go_at_call 46; refine (i_isSeats _ _).mono ?_; rintro e w' ⟨rfl, rfl⟩) | (go_at_call 47; refine hQ.out.mono ?_; rintro e w2 ⟨g, rfl, hb2, ho2⟩) | (go_at_call 57; refine (HM2.out _ _ (ho2.sl hn)).mono ?_; rintro e w3 ⟨rfl, rfl⟩))
          go_roundw
          case rel => exact ⟨s + 1, by omega, by omega, rfl, hN2, kept_trans hb hb2⟩
          case measure => simp [intOf]; omega
      · have hi1 := inB_no (n := s) (a := 1) (b := 1000) (by omega)
        have hY := Lib.hid (HN.out s hge hno.out)
        clear HM HQ HY HN HP HX
        go_wp2_with (first | (go_at_call 46; refine (i_isSeats _ _).mono ?_; rintro e w' ⟨rfl, rfl⟩))
        go_ret2
        exact ⟨by rw [hY.out]; rfl, hb⟩

theorem s_LeastSeats (v : Value) (n : Nat) (z : Nat → Int) (ev lim : Int) (W : World) (hs : Sl W v 1 n (ic z)) : Calls Try.prog 27 #[v, .int .i64 ev, .int .i64 lim] W fun e W' => e = .returned (.tuple #[.int .i64 (seats n z ev lim).1, .int .i64 (seats n z ev lim).2]) ∧ Below W.heap.size W W' := by
  have HA := Lib.hid (fun w => s_l20Ask v n z ev 1 w)
  have HQ := Lib.hid (fun w se => s_l20Queues v n z ev se 0 w)
  have HS := hs
  obtain ⟨hn, ao, cap, rfl, hr⟩ := hs
  clear hr
  have h11 := inB_yes (n := 1) (a := 1) (b := 1000) (by omega) (by omega)
  rw [h11, Bool.and_true] at HA
  clear h11
  rcases ask_cases (vArr n z) (inB ev 1 60 && inB lim 0 100000) with ⟨c, hc, hc1, -⟩ | ⟨hv, hb, hc⟩
  · have hq := Lib.hid (seats_no hc hc1)
    rw [hq.out]
    have HC : (askCode (vArr n z) (inB ev 1 60) = c ∨ (askCode (vArr n z) (inB ev 1 60) = 0 ∧ inB lim 0 100000 = false ∧ c = 2)) := by
      subst hc
      cases vArr n z <;> cases inB ev 1 60 <;> cases inB lim 0 100000 <;> simp [askCode] at hc1 ⊢
    clear hc hq
    rcases HC with h | ⟨h, h2, h3⟩
    · rw [h] at HA
      clear h
      rcases hc1 with rfl | rfl
      all_goals
        go_enter Try.func27, Try.ntmps27
        go_wp2_with (first | (go_at_call 50; refine (s_l20Limit _ _).mono ?_; rintro e w' ⟨rfl, rfl⟩) | (go_at_call 43; refine (HA.out _ HS).mono ?_; rintro e w1 ⟨rfl, hb1⟩))
        go_ret2
        exact ⟨rfl, hb1⟩
    · rw [h] at HA
      clear h hc1
      subst h3
      go_enter Try.func27, Try.ntmps27
      go_wp2_with (first | (go_at_call 50; refine (s_l20Limit _ _).mono ?_; rintro e w' ⟨rfl, rfl⟩) | (go_at_call 43; refine (HA.out _ HS).mono ?_; rintro e w1 ⟨rfl, hb1⟩))
      go_ret2
      exact ⟨rfl, hb1⟩
  · have hx := Lib.hid (seats_yes hc)
    rw [hx.out]
    clear hc hx
    rw [Bool.and_eq_true] at hb
    obtain ⟨h1, h2⟩ := hb
    rw [hv, h1] at HA
    have HA : Hid (∀ w, Sl w (.slice ao n cap) 1 n (ic z) → Calls Try.prog 43 #[.slice ao n cap, .int .i64 ev, .int .i64 1] w fun e W' => e = .returned (.int .i64 0) ∧ Below w.heap.size w W') := HA
    have b1 := inB_out h1
    have b2 := inB_out h2
    obtain ⟨n1, n2, HZ⟩ := vArr_out hv
    have HZ := Lib.hid HZ
    have HM := Lib.hid (fun g m w (h : Sl w g 1 n (ic m)) => s_l20Most g n m w h n1)
    have HP := Lib.hid (seatP_at n z ev lim)
    clear hv h1
    generalize seatP n z ev lim = P at *
    have HY := Lib.hid (fun s => seat_at' (P := P) (s := s))
    have HN := Lib.hid (fun s => seat_none' (P := P) (s := s))
    have HX := Lib.hid (fun s => seat_next (P := P) (s := s))
    generalize seatIn P = R at *
    go_enter Try.func27, Try.ntmps27
    go_wp2_with (first | (go_at_call 50; refine (s_l20Limit _ _).mono ?_; rintro e w' ⟨rfl, rfl⟩) | (go_at_call 43; refine (HA.out _ HS).mono ?_; rintro e w1 ⟨rfl, hb1⟩))
    clear h2
    go_loopw [9] (fun v wr => ∃ s : Int, 1 ≤ s ∧ s ≤ 1001 ∧ v = .int .i64 s ∧ Hid (∀ i : Nat, (i : Int) + 1 < s → P i = false) ∧ Below W.heap.size W wr) (fun s _ => (1002 - intOf s).toNat)
    case atStart => exact ⟨1, by omega, by omega, rfl, fun i hi => absurd hi (by omega), hb1⟩
    case round =>
      obtain ⟨s, hj0, hj, rfl, hno, hb⟩ := hrel
      rcases (show s ≤ 1000 ∨ 1000 < s by omega) with hlt | hge
      · have hQ := Lib.hid (HQ.out wr s (HS.kept hb) n1 n2 HZ b1 (by omega))
        have hp := HP.out s hj0
        have hY := Lib.hid (HY.out s ⟨hj0, hlt⟩ hno.out)
        have hX := Lib.hid (HX.out s hj0 hno.out)
        generalize hmm : mx (fun i => qu z ev s 0 (i + 1)) (n - 1) = m at *
        have HM2 : Hid (∀ g w, Sl w g 1 n (ic (fun i => qu z ev s 0 (i + 1))) → Calls Try.prog 56 #[g] w fun e W' => ∃ b : Int, e = .returned (.tuple #[.int .i64 m, .int .i64 b]) ∧ Below w.heap.size w W') := fun g w h => by have := HM.out g _ w h; rw [hmm] at this; exact this
        clear hmm HM HQ HY HN HP HX
        rcases (show m ≤ lim ∨ lim < m by omega) with hm | hm
        · have hY := Lib.hid (hY.out (by rw [hp]; simp; omega))
          clear hp hX
          go_wp2_with (first | (go_at_call 44; refine hQ.out.mono ?_; rintro e w2 ⟨g, rfl, hb2, ho2⟩) | (go_at_call 56; refine (HM2.out _ _ (ho2.sl hn)).mono ?_; rintro e w3 ⟨bb, rfl, hb3⟩))
          go_ret2
          exact ⟨by rw [hY.out]; rfl, kept_trans (kept_trans hb hb2) hb3⟩
        · have hp' : P (s - 1).toNat = false := by rw [hp]; simp; omega
          have hN2 := Lib.hid (hX.out hp')
          clear hp hp' hY hX
          go_wp2_with (first | (go_at_call 44; refine hQ.out.mono ?_; rintro e w2 ⟨g, rfl, hb2, ho2⟩) | (go_at_call 56; refine (HM2.out _ _ (ho2.sl hn)).mono ?_; rintro e w3 ⟨bb, rfl, hb3⟩))
          go_roundw
          case rel => exact ⟨s + 1, by omega, by omega, rfl, hN2, kept_trans (kept_trans hb hb2) hb3⟩
          case measure => simp [intOf]; omega
      · have hY := Lib.hid (HN.out s hge hno.out)
        clear HM HQ HY HN HP HX
        go_wp2_with fail
        go_ret2
        exact ⟨by rw [hY.out]; rfl, hb⟩

theorem l_LeastSeats {W : World} (v : Value) (n : Nat) (z : Nat → Int) (hs : Sl W v 1 n (ic z)) (_hz : ∀ i, i < n → -9223372036854775808 ≤ z i ∧ z i ≤ 9223372036854775807) (ev lim : Int) : Calls Try.prog 8 #[v, .int .i64 ev, .int .i64 lim] W (Truly W) :=
  l_LeastSeats_of v n z ev lim hs _ _ (fun w q h => s_LeastSeats q n z ev lim w h) (fun w q h => i_LeastSeats q n z ev lim w h)

end Go.Proofs.Ytobpeiimiglknaa
