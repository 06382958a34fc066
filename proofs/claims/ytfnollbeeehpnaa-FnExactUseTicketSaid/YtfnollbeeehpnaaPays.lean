/- What groups and families pay. -/
import Derived.Test.YtfnollbeeehpnaaFared
namespace Go.Proofs.Ytfnollbeeehpnaa
open Go.RowKit Go.Deep
set_option linter.unusedVariables false
set_option maxRecDepth 100000

theorem and3_cases (a b c : Bool) : (a = false ∧ Hid ((a && b && c) = false)) ∨ (a = true ∧ b = false ∧ Hid ((a && b && c) = false)) ∨ (a = true ∧ b = true ∧ c = false ∧ Hid ((a && b && c) = false)) ∨ (a = true ∧ b = true ∧ c = true ∧ Hid ((a && b && c) = true)) := by
  cases a
  · exact .inl ⟨rfl, rfl⟩
  · cases b
    · exact .inr (.inl ⟨rfl, rfl, rfl⟩)
    · cases c
      · exact .inr (.inr (.inl ⟨rfl, rfl, rfl, rfl⟩))
      · exact .inr (.inr (.inr ⟨rfl, rfl, rfl, rfl⟩))
theorem smul_bd {x b : Int} (h : -10000 ≤ x ∧ x ≤ 10000) (hb : 0 ≤ b ∧ b ≤ 1000000000) : -10000000000000 ≤ x * b ∧ x * b ≤ 10000000000000 := by
  rcases (show 0 ≤ x ∨ 0 ≤ -x by omega) with h0 | h0
  · have := mul_bd h0 h.2 hb.1 hb.2
    omega
  · have := mul_bd h0 (show -x ≤ 10000 by omega) hb.1 hb.2
    rw [Int.neg_mul] at this
    omega
/-- What the walk of the program meets of one fare: the code, then the fare. -/
def payF (p m o : Int) (b c d : Int) : Int × Int := ((p - p / m * o) * b, 0)
def payOk (p m o : Int) : Bool := inB p 0 100 && inB m 2 100 && inB o 0 m

theorem i_PayGroups (v : Value) (n : Nat) (a : Nat → ByteArray) (b c d : Nat → Int) (id : ByteArray) (p m o : Int) (W : World) (hs : Sl W v 4 n (gc a b c d)) (hx : Hid (∀ i, i < n → ((a i).size : Int) ≤ 1048576)) :
    Calls Try.prog 46 #[v, .string id, .int .i64 p, .int .i64 m, .int .i64 o] W fun e W' => e = .returned (.tuple #[.int .i64 (ofFare n a b c d (payOk p m o) id (payF p m o)).1, .int .i64 (ofFare n a b c d (payOk p m o) id (payF p m o)).2]) ∧ Below W.heap.size W W' := by
  have HA := Lib.hid (fun fine => i_fared1 v n a b c d fine id W hs hx)
  have HS := hs
  have HSA := hs.kept (kept_alloc (Below.refl _ _) (.cells #[.string id] 9))
  obtain ⟨hn, ao, cap, rfl, hr⟩ := hs
  clear hr
  have hok : payOk p m o = (inB p 0 100 && inB m 2 100 && inB o 0 m) := rfl
  rcases fcode_cases n a b c d (payOk p m o) id with ⟨x, hc, hx3⟩ | ⟨hc, hfine, h8, k, hk, hf, hb, hcc, hd⟩
  · have hR := Lib.hid (ofFare_no (f := payF p m o) hc hx3)
    have HA := Lib.hid (HA.out (payOk p m o))
    rw [hc] at HA
    rw [hok] at HA
    clear hc hok
    rcases and3_cases (inB p 0 100) (inB m 2 100) (inB o 0 m) with ⟨h1, HV⟩ | ⟨h1, h2, HV⟩ | ⟨h1, h2, h3, HV⟩ | ⟨h1, h2, h3, HV⟩
    all_goals
      rw [HV.out] at HA
      rcases hx3 with rfl | rfl | rfl
      all_goals
        go_enter Try.func46, Try.ntmps46
        go_wp2_with (first | (go_at_call 91; refine (i_isRiders _ _).mono ?_; rintro e w' ⟨rfl, rfl⟩) | (go_at_call 70; refine (i_within _ _ _ _).mono ?_; rintro e w' ⟨rfl, rfl⟩) | (go_at_call 86; refine HA.out.mono ?_; rintro e w1 ⟨rfl, hb1⟩))
        go_ret2
        exact ⟨by rw [hR.out]; rfl, kept_trans (kept_alloc (Below.refl _ _) _) hb1⟩
  · have hR := Lib.hid (ofFare_yes (f := payF p m o) hc hf)
    have HF := Lib.hid (fun w hs => i_fareOf_yes (b := b) (c := c) (d := d) hf (.slice ao n cap) w hs)
    have HA := Lib.hid (HA.out (payOk p m o))
    rw [hc, hfine] at HA
    rw [hok] at hfine
    simp only [Bool.and_eq_true] at hfine
    obtain ⟨⟨h1, h2⟩, h3⟩ := hfine
    have b1 := inB_out h1
    have b2 := inB_out h2
    have b3 := inB_out h3
    clear hc hf hok
    have q1 : 0 ≤ p / m := Int.ediv_nonneg (by omega) (by omega)
    have q2 : p / m ≤ p := Int.ediv_le_self _ (by omega)
    have q3 := mul_bd q1 (show p / m ≤ 100 by omega) b3.1 (show o ≤ 100 by omega)
    have q4 := smul_bd (x := p - p / m * o) (b := b k) (by omega) (by omega)
    have e1 : p.tdiv m = p / m := Int.tdiv_eq_ediv_of_nonneg (by omega)
    have e2 : IntKind.i64.wrap (p / m) = p / m := IntWalk.i64_in _ (by omega)
    have e3 : IntKind.i64.wrap (p / m * o) = p / m * o := IntWalk.i64_in _ (by omega)
    have e4 : IntKind.i64.wrap (p - p / m * o) = p - p / m * o := IntWalk.i64_in _ (by omega)
    have e5 : IntKind.i64.wrap ((p - p / m * o) * b k) = (p - p / m * o) * b k := IntWalk.i64_in _ (by omega)
    have e6 : (m == 0) = false := by simp; omega
    have e7 : decide (m = 0) = false := by simp; omega
    go_enter Try.func46, Try.ntmps46
    go_wp2_with (first | (go_at_call 91; refine (i_isRiders _ _).mono ?_; rintro e w' ⟨rfl, rfl⟩) | (go_at_call 70; refine (i_within _ _ _ _).mono ?_; rintro e w' ⟨rfl, rfl⟩) | (go_at_call 86; refine HA.out.mono ?_; rintro e w1 ⟨rfl, hb1⟩) | (go_at_call 87; refine (HF.out _ (HSA.kept hb1)).mono ?_; rintro e w2 ⟨rfl, hb2⟩))
    go_quiet (fail)
    clear e1 e2 e3 e4 e5 e6 e7
    go_wp2_with fail
    go_ret2
    exact ⟨by rw [hR.out]; rfl, kept_drewN (kept_alloc (kept_trans (kept_trans (kept_alloc (Below.refl _ _) _) hb1) hb2) _) _⟩

theorem s_PayGroups (v : Value) (n : Nat) (a : Nat → ByteArray) (b c d : Nat → Int) (id : ByteArray) (p m o : Int) (W : World) (hs : Sl W v 4 n (gc a b c d)) (hx : Hid (∀ i, i < n → ((a i).size : Int) ≤ 1048576)) :
    Calls Try.prog 45 #[v, .string id, .int .i64 p, .int .i64 m, .int .i64 o] W fun e W' => e = .returned (.tuple #[.int .i64 (ofFare n a b c d (payOk p m o) id (payF p m o)).1, .int .i64 (ofFare n a b c d (payOk p m o) id (payF p m o)).2]) ∧ Below W.heap.size W W' := by
  have HA := Lib.hid (fun fine => s_l18Ask v n a b c d fine id W hs hx)
  have HF := Lib.hid (fun w hs => s_find v n a b c d id w hs)
  have HS := hs
  obtain ⟨hn, ao, cap, rfl, hr⟩ := hs
  have hok : payOk p m o = (inB p 0 100 && inB m 2 100 && inB o 0 m) := rfl
  rcases fcode_cases n a b c d (payOk p m o) id with ⟨x, hc, hx3⟩ | ⟨hc, hfine, h8, k, hk, hf, hb, hcc, hd⟩
  · have hR := Lib.hid (ofFare_no (f := payF p m o) hc hx3)
    have HA := Lib.hid (HA.out (payOk p m o))
    rw [hc] at HA
    rw [hok] at HA
    clear hc hok hr
    rcases and3_cases (inB p 0 100) (inB m 2 100) (inB o 0 m) with ⟨h1, HV⟩ | ⟨h1, h2, HV⟩ | ⟨h1, h2, h3, HV⟩ | ⟨h1, h2, h3, HV⟩
    all_goals
      rw [HV.out] at HA
      rcases hx3 with rfl | rfl | rfl
      all_goals
        go_enter Try.func45, Try.ntmps45
        go_wp2_with (first | (go_at_call 89; refine (s_l18People _ _).mono ?_; rintro e w' ⟨rfl, rfl⟩) | (go_at_call 90; refine (s_l00In _ _ _ _).mono ?_; rintro e w' ⟨rfl, rfl⟩) | (go_at_call 84; refine HA.out.mono ?_; rintro e w1 ⟨rfl, hb1⟩))
        go_ret2
        exact ⟨by rw [hR.out]; rfl, hb1⟩
  · have hR := Lib.hid (ofFare_yes (f := payF p m o) hc hf)
    have HA := Lib.hid (HA.out (payOk p m o))
    rw [hc, hfine] at HA
    rw [hf] at HF
    rw [hok] at hfine
    simp only [Bool.and_eq_true] at hfine
    obtain ⟨⟨h1, h2⟩, h3⟩ := hfine
    have b1 := inB_out h1
    have b2 := inB_out h2
    have b3 := inB_out h3
    clear hc hf hok
    rcases hr with h0 | ⟨g, off, rfl, hr⟩
    · omega
    have hr := Lib.hid hr
    have q1 : 0 ≤ p / m := Int.ediv_nonneg (by omega) (by omega)
    have q2 : p / m ≤ p := Int.ediv_le_self _ (by omega)
    have q3 := mul_bd q1 (show p / m ≤ 100 by omega) b3.1 (show o ≤ 100 by omega)
    have q4 := smul_bd (x := p - p / m * o) (b := b k) (by omega) (by omega)
    have e1 : p.tdiv m = p / m := Int.tdiv_eq_ediv_of_nonneg (by omega)
    have e2 : IntKind.i64.wrap (p / m) = p / m := IntWalk.i64_in _ (by omega)
    have e3 : IntKind.i64.wrap (p / m * o) = p / m * o := IntWalk.i64_in _ (by omega)
    have e4 : IntKind.i64.wrap (p - p / m * o) = p - p / m * o := IntWalk.i64_in _ (by omega)
    have e5 : IntKind.i64.wrap ((p - p / m * o) * b k) = (p - p / m * o) * b k := IntWalk.i64_in _ (by omega)
    have e6 : (m == 0) = false := by simp; omega
    have e7 : decide (m = 0) = false := by simp; omega
    have e8 : (k : Int) < n := by omega
    have e9 : (0 : Int) ≤ k := by omega
    go_enter Try.func45, Try.ntmps45
    go_wp2_with (first | (go_at_call 89; refine (s_l18People _ _).mono ?_; rintro e w' ⟨rfl, rfl⟩) | (go_at_call 90; refine (s_l00In _ _ _ _).mono ?_; rintro e w' ⟨rfl, rfl⟩) | (go_at_call 84; refine HA.out.mono ?_; rintro e w1 ⟨rfl, hb1⟩; obtain ⟨x0, x1, x2, x3⟩ := gccells (hr.out.kept hb1) hk))
    have HFq : ∀ mm, Calls Try.prog 85 #[.slice (some ⟨g, off, none⟩) n cap, .string id] (w1.drewN mm) fun e W' => e = .returned (.int .i64 k) ∧ W' = w1.drewN mm := fun mm => (HF.out _ ((HS.kept hb1).kept (kept_drewN (Below.refl _ _) _))).mono fun _ _ ⟨he, hw⟩ => ⟨he, hw.symm⟩
    go_quiet ((go_at_call 85; exact Calls.quiet_of_same (HFq _)))
    clear e1 e2 e3 e4 e5 e6 e7 HFq
    go_wp2_with fail
    go_ret2
    exact ⟨by rw [hR.out]; rfl, kept_drewN hb1 _⟩

theorem l_PayGroups {W : World} (v : Value) (n : Nat) (a : Nat → ByteArray) (b c d : Nat → Int) (hs : Sl W v 4 n (gc a b c d)) (hx : Hid (∀ i, i < n → ((a i).size : Int) ≤ 9223372036854775807)) (id : ByteArray) (hi : id.size ≤ 140737488351232) (p m o : Int) : Calls Try.prog 10 #[v, .string id, .int .i64 p, .int .i64 m, .int .i64 o] W (Truly W) :=
  l_PayGroups_of v n a b c d id p m o hs hx hi _ _ (fun w q h hl _ => s_PayGroups q n a b c d id p m o w h hl) (fun w q h hl _ => i_PayGroups q n a b c d id p m o w h hl)

def centsF (p m o : Int) (b c d : Int) : Int × Int := (p * b + m * rnd (b * o) 1000, 0)
def centsOk (p m o : Int) : Bool := inB p 0 100 && inB m 0 100 && inB o 0 1000

theorem i_GroupCents (v : Value) (n : Nat) (a : Nat → ByteArray) (b c d : Nat → Int) (id : ByteArray) (p m o : Int) (W : World) (hs : Sl W v 4 n (gc a b c d)) (hx : Hid (∀ i, i < n → ((a i).size : Int) ≤ 1048576)) :
    Calls Try.prog 50 #[v, .string id, .int .i64 p, .int .i64 m, .int .i64 o] W fun e W' => e = .returned (.tuple #[.int .i64 (ofFare n a b c d (centsOk p m o) id (centsF p m o)).1, .int .i64 (ofFare n a b c d (centsOk p m o) id (centsF p m o)).2]) ∧ Below W.heap.size W W' := by
  have HA := Lib.hid (fun fine => i_fared1 v n a b c d fine id W hs hx)
  have HS := hs
  have HSA := hs.kept (kept_alloc (Below.refl _ _) (.cells #[.string id] 9))
  obtain ⟨hn, ao, cap, rfl, hr⟩ := hs
  clear hr
  have hok : centsOk p m o = (inB p 0 100 && inB m 0 100 && inB o 0 1000) := rfl
  rcases fcode_cases n a b c d (centsOk p m o) id with ⟨x, hc, hx3⟩ | ⟨hc, hfine, h8, k, hk, hf, hb, hcc, hd⟩
  · have hR := Lib.hid (ofFare_no (f := centsF p m o) hc hx3)
    have HA := Lib.hid (HA.out (centsOk p m o))
    rw [hc] at HA
    rw [hok] at HA
    clear hc hok
    rcases and3_cases (inB p 0 100) (inB m 0 100) (inB o 0 1000) with ⟨h1, HV⟩ | ⟨h1, h2, HV⟩ | ⟨h1, h2, h3, HV⟩ | ⟨h1, h2, h3, HV⟩
    all_goals
      rw [HV.out] at HA
      rcases hx3 with rfl | rfl | rfl
      all_goals
        go_enter Try.func50, Try.ntmps50
        go_wp2_with (first | (go_at_call 91; refine (i_isRiders _ _).mono ?_; rintro e w' ⟨rfl, rfl⟩) | (go_at_call 93; refine (i_isShare _ _).mono ?_; rintro e w' ⟨rfl, rfl⟩) | (go_at_call 86; refine HA.out.mono ?_; rintro e w1 ⟨rfl, hb1⟩))
        go_ret2
        exact ⟨by rw [hR.out]; rfl, kept_trans (kept_alloc (Below.refl _ _) _) hb1⟩
  · have hR := Lib.hid (ofFare_yes (f := centsF p m o) hc hf)
    have HF := Lib.hid (fun w hs => i_fareOf_yes (b := b) (c := c) (d := d) hf (.slice ao n cap) w hs)
    have HA := Lib.hid (HA.out (centsOk p m o))
    rw [hc, hfine] at HA
    rw [hok] at hfine
    simp only [Bool.and_eq_true] at hfine
    obtain ⟨⟨h1, h2⟩, h3⟩ := hfine
    have b1 := inB_out h1
    have b2 := inB_out h2
    have b3 := inB_out h3
    clear hc hf hok
    have q1 := mul_bd b1.1 b1.2 hb.1 hb.2
    have q2 := mul_bd hb.1 hb.2 b3.1 b3.2
    have q3 := rnd_bd (a := b k * o) (b := 1000) q2.1 (by omega)
    have q4 := mul_bd b2.1 b2.2 q3.1 (show rnd (b k * o) 1000 ≤ 1000000000 by omega)
    have hnear := Lib.hid (fun w => i_nearest (b k * o) 1000 w (by omega))
    have HRN : Hid (centsF p m o (b k) (c k) (d k) = (p * b k + m * rnd (b k * o) 1000, 0)) := rfl
    generalize centsF p m o (b k) (c k) (d k) = RR at *
    generalize rnd (b k * o) 1000 = rn at *
    have e1 : IntKind.i64.wrap (p * b k) = p * b k := IntWalk.i64_in _ (by omega)
    have e2 : IntKind.i64.wrap (b k * o) = b k * o := IntWalk.i64_in _ (by omega)
    have e3 : IntKind.i64.wrap (m * rn) = m * rn := IntWalk.i64_in _ (by omega)
    have e4 : IntKind.i64.wrap (p * b k + m * rn) = p * b k + m * rn := IntWalk.i64_in _ (by omega)
    go_enter Try.func50, Try.ntmps50
    go_wp2_with (first | (go_at_call 91; refine (i_isRiders _ _).mono ?_; rintro e w' ⟨rfl, rfl⟩) | (go_at_call 93; refine (i_isShare _ _).mono ?_; rintro e w' ⟨rfl, rfl⟩) | (go_at_call 86; refine HA.out.mono ?_; rintro e w1 ⟨rfl, hb1⟩) | (go_at_call 87; refine (HF.out _ (HSA.kept hb1)).mono ?_; rintro e w2 ⟨rfl, hb2⟩))
    go_quiet ((go_at_call 94; exact Calls.quiet_of (hnear.out _)))
    clear e1 e2 e3 e4
    go_wp2_with fail
    go_ret2
    exact ⟨by rw [hR.out, HRN.out]; rfl, kept_drewN (kept_alloc (kept_trans (kept_trans (kept_alloc (Below.refl _ _) _) hb1) hb2) _) _⟩

theorem s_GroupCents (v : Value) (n : Nat) (a : Nat → ByteArray) (b c d : Nat → Int) (id : ByteArray) (p m o : Int) (W : World) (hs : Sl W v 4 n (gc a b c d)) (hx : Hid (∀ i, i < n → ((a i).size : Int) ≤ 1048576)) :
    Calls Try.prog 49 #[v, .string id, .int .i64 p, .int .i64 m, .int .i64 o] W fun e W' => e = .returned (.tuple #[.int .i64 (ofFare n a b c d (centsOk p m o) id (centsF p m o)).1, .int .i64 (ofFare n a b c d (centsOk p m o) id (centsF p m o)).2]) ∧ Below W.heap.size W W' := by
  have HA := Lib.hid (fun fine => s_l18Ask v n a b c d fine id W hs hx)
  have HF := Lib.hid (fun w hs => s_find v n a b c d id w hs)
  have HS := hs
  obtain ⟨hn, ao, cap, rfl, hr⟩ := hs
  have hok : centsOk p m o = (inB p 0 100 && inB m 0 100 && inB o 0 1000) := rfl
  rcases fcode_cases n a b c d (centsOk p m o) id with ⟨x, hc, hx3⟩ | ⟨hc, hfine, h8, k, hk, hf, hb, hcc, hd⟩
  · have hR := Lib.hid (ofFare_no (f := centsF p m o) hc hx3)
    have HA := Lib.hid (HA.out (centsOk p m o))
    rw [hc] at HA
    rw [hok] at HA
    clear hc hok hr
    rcases and3_cases (inB p 0 100) (inB m 0 100) (inB o 0 1000) with ⟨h1, HV⟩ | ⟨h1, h2, HV⟩ | ⟨h1, h2, h3, HV⟩ | ⟨h1, h2, h3, HV⟩
    all_goals
      rw [HV.out] at HA
      rcases hx3 with rfl | rfl | rfl
      all_goals
        go_enter Try.func49, Try.ntmps49
        go_wp2_with (first | (go_at_call 89; refine (s_l18People _ _).mono ?_; rintro e w' ⟨rfl, rfl⟩) | (go_at_call 90; refine (s_l00In _ _ _ _).mono ?_; rintro e w' ⟨rfl, rfl⟩) | (go_at_call 84; refine HA.out.mono ?_; rintro e w1 ⟨rfl, hb1⟩))
        go_ret2
        exact ⟨by rw [hR.out]; rfl, hb1⟩
  · have hR := Lib.hid (ofFare_yes (f := centsF p m o) hc hf)
    have HA := Lib.hid (HA.out (centsOk p m o))
    rw [hc, hfine] at HA
    rw [hf] at HF
    rw [hok] at hfine
    simp only [Bool.and_eq_true] at hfine
    obtain ⟨⟨h1, h2⟩, h3⟩ := hfine
    have b1 := inB_out h1
    have b2 := inB_out h2
    have b3 := inB_out h3
    clear hc hf hok
    rcases hr with h0 | ⟨g, off, rfl, hr⟩
    · omega
    have hr := Lib.hid hr
    have q1 := mul_bd b1.1 b1.2 hb.1 hb.2
    have q2 := mul_bd hb.1 hb.2 b3.1 b3.2
    have q3 := rnd_bd (a := b k * o) (b := 1000) q2.1 (by omega)
    have q4 := mul_bd b2.1 b2.2 q3.1 (show rnd (b k * o) 1000 ≤ 1000000000 by omega)
    have hnear : ∀ w, Calls Try.prog 92 #[.int .i64 (b k * o), .int .i64 1000] w fun e W' => e = .returned (.int .i64 (rnd (b k * o) 1000)) ∧ W' = w := fun w => (s_l01Div (b k * o) 1000 w (by omega)).mono fun _ _ ⟨he, hw⟩ => ⟨he, hw.symm⟩
    have hnear := Lib.hid hnear
    have HRN : Hid (centsF p m o (b k) (c k) (d k) = (p * b k + m * rnd (b k * o) 1000, 0)) := rfl
    generalize centsF p m o (b k) (c k) (d k) = RR at *
    generalize rnd (b k * o) 1000 = rn at *
    have e1 : IntKind.i64.wrap (p * b k) = p * b k := IntWalk.i64_in _ (by omega)
    have e2 : IntKind.i64.wrap (b k * o) = b k * o := IntWalk.i64_in _ (by omega)
    have e3 : IntKind.i64.wrap (m * rn) = m * rn := IntWalk.i64_in _ (by omega)
    have e4 : IntKind.i64.wrap (p * b k + m * rn) = p * b k + m * rn := IntWalk.i64_in _ (by omega)
    have e8 : (k : Int) < n := by omega
    have e9 : (0 : Int) ≤ k := by omega
    go_enter Try.func49, Try.ntmps49
    go_wp2_with (first | (go_at_call 89; refine (s_l18People _ _).mono ?_; rintro e w' ⟨rfl, rfl⟩) | (go_at_call 90; refine (s_l00In _ _ _ _).mono ?_; rintro e w' ⟨rfl, rfl⟩) | (go_at_call 84; refine HA.out.mono ?_; rintro e w1 ⟨rfl, hb1⟩; obtain ⟨x0, x1, x2, x3⟩ := gccells (hr.out.kept hb1) hk) | (go_at_call 85; refine (HF.out _ (HS.kept hb1)).mono ?_; rintro e w' ⟨rfl, rfl⟩))
    go_quiet ((go_at_call 92; exact Calls.quiet_of_same (hnear.out _)))
    clear e1 e2 e3 e4
    go_wp2_with fail
    go_ret2
    exact ⟨by rw [hR.out, HRN.out]; rfl, kept_drewN hb1 _⟩

theorem l_GroupCents {W : World} (v : Value) (n : Nat) (a : Nat → ByteArray) (b c d : Nat → Int) (hs : Sl W v 4 n (gc a b c d)) (hx : Hid (∀ i, i < n → ((a i).size : Int) ≤ 9223372036854775807)) (id : ByteArray) (hi : id.size ≤ 140737488351232) (p m o : Int) : Calls Try.prog 12 #[v, .string id, .int .i64 p, .int .i64 m, .int .i64 o] W (Truly W) :=
  l_GroupCents_of v n a b c d id p m o hs hx hi _ _ (fun w q h hl _ => s_GroupCents q n a b c d id p m o w h hl) (fun w q h hl _ => i_GroupCents q n a b c d id p m o w h hl)

end Go.Proofs.Ytfnollbeeehpnaa
