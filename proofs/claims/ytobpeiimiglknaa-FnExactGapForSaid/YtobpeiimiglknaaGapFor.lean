/- The least gap with which there is always enough water. -/
import Derived.Test.YtobpeiimiglknaaStores2
namespace Go.Proofs.Ytobpeiimiglknaa
open Go.RowKit Go.Deep
set_option linter.unusedVariables false

def gfP (p s : Int) (n : Nat) (wt : Nat → Int) : Nat → Bool := fun j => stOk n wt (p * j) s
def gfIn (P : Nat → Bool) : Int × Int := if firstTo P 1441 < 1441 then (firstTo P 1441, 0) else (0, 3)
theorem gf_at {P : Nat → Bool} {g : Int} (h : 0 ≤ g ∧ g ≤ 1440) (hno : ∀ i : Nat, (i : Int) < g → P i = false) (hy : P g.toNat = true) : gfIn P = (g, 0) := by
  have h' : g.toNat < 1441 := by omega
  unfold gfIn; rw [firstTo_eq (Nat.le_of_lt h') (fun i hi => hno i (by omega)) (fun _ => hy), if_pos h', Int.toNat_of_nonneg h.1]
theorem gf_none {P : Nat → Bool} {g : Int} (h : 1440 < g) (hno : ∀ i : Nat, (i : Int) < g → P i = false) : gfIn P = (0, 3) := by
  unfold gfIn; rw [firstTo_eq (Nat.le_refl _) (fun i hi => hno i (by omega)) (fun h => absurd h (Nat.lt_irrefl _)), if_neg (Nat.lt_irrefl _)]
theorem gf_next {P : Nat → Bool} {g : Int} (h0 : 0 ≤ g) (hno : ∀ i : Nat, (i : Int) < g → P i = false) (h : P g.toNat = false) : ∀ i : Nat, (i : Int) < g + 1 → P i = false := fun i hi => by
  by_cases e : (i : Int) < g
  · exact hno i e
  · rw [show i = g.toNat by omega]; exact h
def gf (t r s p : Int) (n : Nat) (wt : Nat → Int) : Int × Int := if askCode (vBasin t r s p) (vWat n wt) = 0 then gfIn (gfP p s n wt) else (0, askCode (vBasin t r s p) (vWat n wt))
theorem gf_no {t r s p : Int} {n : Nat} {wt : Nat → Int} {a b : Bool} (h1 : vBasin t r s p = a) (h2 : vWat n wt = b) (h : (a && b) = false) : gf t r s p n wt = (0, askCode a b) := by
  unfold gf; rw [h1, h2]; revert h; cases a <;> cases b <;> simp [askCode]
theorem gf_yes {t r s p : Int} {n : Nat} {wt : Nat → Int} (h1 : vBasin t r s p = true) (h2 : vWat n wt = true) : gf t r s p n wt = gfIn (gfP p s n wt) := by
  unfold gf; rw [h1, h2, if_pos (by rfl)]
theorem gfP_at (p s : Int) (n : Nat) (wt : Nat → Int) (g : Int) (h : 0 ≤ g) : gfP p s n wt g.toNat = stOk n wt (p * g) s := by unfold gfP; rw [Int.toNat_of_nonneg h]
attribute [irreducible] gf gfIn gfP

set_option maxHeartbeats 1000000 in
theorem i_GapFor (t r s p : Int) (v : Value) (n : Nat) (wt : Nat → Int) (W : World) (hs : Sl W v 1 n (ic wt)) : Calls Try.prog 31 #[.agg #[.int .i64 t, .int .i64 r, .int .i64 s, .int .i64 p], v] W fun e W' => e = .returned (.tuple #[.int .i64 (gf t r s p n wt).1, .int .i64 (gf t r s p n wt).2]) ∧ Below W.heap.size W W' := by
  have HV := @vBasin_out t r s p
  have HW := @vWat_out n wt
  have HC := Lib.hid (i_storeAfter t r s p v n wt)
  have k0 : ∀ d os, (Go.Sort.grow (redrawn (W.alloc (.cells #[.int .i64 t, .int .i64 r, .int .i64 s, .int .i64 p] 40)) d) os).cell? ⟨W.heap.size, 0, none⟩ = some (.int .i64 t) := fun d os => boxed 0 _ rfl d os
  have k1 : ∀ d os, (Go.Sort.grow (redrawn (W.alloc (.cells #[.int .i64 t, .int .i64 r, .int .i64 s, .int .i64 p] 40)) d) os).cell? ⟨W.heap.size, 1, none⟩ = some (.int .i64 r) := fun d os => boxed 1 _ rfl d os
  have k2 : ∀ d os, (Go.Sort.grow (redrawn (W.alloc (.cells #[.int .i64 t, .int .i64 r, .int .i64 s, .int .i64 p] 40)) d) os).cell? ⟨W.heap.size, 2, none⟩ = some (.int .i64 s) := fun d os => boxed 2 _ rfl d os
  have k3 : ∀ d os, (Go.Sort.grow (redrawn (W.alloc (.cells #[.int .i64 t, .int .i64 r, .int .i64 s, .int .i64 p] 40)) d) os).cell? ⟨W.heap.size, 3, none⟩ = some (.int .i64 p) := fun d os => boxed 3 _ rfl d os
  have HSA := hs.kept (kept_alloc (Below.refl _ _) (.cells #[.int .i64 t, .int .i64 r, .int .i64 s, .int .i64 p] 40))
  have Q0 : Hid ((W.alloc (.cells #[.int .i64 t, .int .i64 r, .int .i64 s, .int .i64 p] 40)).cell? ⟨W.heap.size, 0, none⟩ = some (.int .i64 t)) := boxed_at rfl rfl
  have Q1 : Hid ((W.alloc (.cells #[.int .i64 t, .int .i64 r, .int .i64 s, .int .i64 p] 40)).cell? ⟨W.heap.size, 1, none⟩ = some (.int .i64 r)) := boxed_at rfl rfl
  have Q2 : Hid ((W.alloc (.cells #[.int .i64 t, .int .i64 r, .int .i64 s, .int .i64 p] 40)).cell? ⟨W.heap.size, 2, none⟩ = some (.int .i64 s)) := boxed_at rfl rfl
  have Q3 : Hid ((W.alloc (.cells #[.int .i64 t, .int .i64 r, .int .i64 s, .int .i64 p] 40)).cell? ⟨W.heap.size, 3, none⟩ = some (.int .i64 p)) := boxed_at rfl rfl
  obtain ⟨hn, ao, cap, rfl, hr⟩ := hs
  clear hr
  cases hv : vBasin t r s p <;> cases hw : vWat n wt
  case true.true =>
    have HF := Lib.hid (gf_yes hv hw)
    have hb := HV hv
    obtain ⟨n24, hzz⟩ := HW hw
    have HZ24 := Lib.hid hzz
    clear hzz
    have HAW := Lib.hid (fun w => i_areWaters (.slice ao n cap) n wt w)
    have HBS : Hid (∀ w, Calls Try.prog 61 #[.agg #[.int .i64 t, .int .i64 r, .int .i64 s, .int .i64 p], .bool true] w fun e W' => e = .returned (.int .i64 0) ∧ Below w.heap.size w W') := fun w => by have := i_basined t r s p true w; rw [hv] at this; exact this
    have HPA := Lib.hid (gfP_at p s n wt)
    rw [hw] at HAW
    rw [HF.out]
    clear HV HW HF
    generalize gfP p s n wt = P at *
    have HA := Lib.hid (fun g => gf_at (P := P) (g := g))
    have HN := Lib.hid (fun g => gf_none (P := P) (g := g))
    have HX := Lib.hid (fun g => gf_next (P := P) (g := g))
    generalize gfIn P = R at *
    go_enter Try.func31, Try.ntmps31
    go_wp2_with (fail)
    refine wp_region_quiet_below (by kernel_rfl) (by kernel_rfl) ?_
    repeat (go_big_quiet_step ((first | (go_at_call 62; exact Calls.regrown_of (HAW.out _ (HSA.kept (below_regrown _ _ _)))) | (go_at_call 61; exact Calls.regrown_of (HBS.out _)))))
    refine wpQuiet_nil ?_
    intro w2 hw2
    have hk := below_of_regrown hw2
    clear hw2 k0 k1 k2 k3
    obtain ⟨hc, hf⟩ := bcell hk
    have hz := hk.size
    try simp at hz
    go_wp2_with (fail)
    go_loopw [7] (fun v wr => ∃ g : Int, 0 ≤ g ∧ g ≤ 1441 ∧ v = .int .i64 g ∧ Hid (∀ i : Nat, (i : Int) < g → P i = false) ∧ Below (W.alloc (.cells #[.int .i64 t, .int .i64 r, .int .i64 s, .int .i64 p] 40)).heap.size (W.alloc (.cells #[.int .i64 t, .int .i64 r, .int .i64 s, .int .i64 p] 40)) wr) (fun v _ => (1442 - intOf v).toNat)
    case atStart => exact ⟨0, by omega, by omega, rfl, fun i hi => absurd hi (by omega), hk⟩
    case round =>
      obtain ⟨g, hg0, hg1, rfl, hno, hb2⟩ := hrel
      clear hc hf hz hk
      have p0 := cell_keep hb2 Q0.out
      have p1 := cell_keep hb2 Q1.out
      have p2 := cell_keep hb2 Q2.out
      have p3 := cell_keep hb2 Q3.out
      rcases (show g ≤ 1440 ∨ 1440 < g by omega) with hlt | hge
      · have hi1 := inB_yes (n := g) (a := 0) (b := 1440) (by omega) (by omega)
        have hcall := Lib.hid (HC.out g wr (HSA.kept hb2) n24 HZ24 (by omega) (by omega) ⟨hg0, hlt⟩)
        have hp := HPA.out g hg0
        have hA := Lib.hid (HA.out g ⟨hg0, hlt⟩ hno.out)
        have hX := Lib.hid (HX.out g hg0 hno.out)
        cases hok : stOk n wt (p * g) s
        · have hN2 := Lib.hid (hX.out (hp.trans hok))
          rw [hok] at hcall
          clear hp hok hA hX HC
          go_wp2_with (first | (go_at_call 63; refine (i_isDayMinute _ _).mono ?_; rintro e w' ⟨rfl, rfl⟩) | (go_at_call 64; refine hcall.out.mono ?_; rintro e w3 ⟨gg, rfl, hb3, ho3⟩))
          go_roundw
          case rel => exact ⟨g + 1, by omega, by omega, rfl, hN2, kept_trans hb2 hb3⟩
          case measure => simp [intOf]; omega
        · have hA2 := Lib.hid (hA.out (hp.trans hok))
          rw [hok] at hcall
          clear hp hok hA hX HC
          go_wp2_with (first | (go_at_call 63; refine (i_isDayMinute _ _).mono ?_; rintro e w' ⟨rfl, rfl⟩) | (go_at_call 64; refine hcall.out.mono ?_; rintro e w3 ⟨gg, rfl, hb3, ho3⟩))
          go_ret2
          exact ⟨by rw [hA2.out]; rfl, kept_trans (kept_trans (kept_alloc (Below.refl _ _) _) hb2) hb3⟩
      · have hi1 := inB_no (n := g) (a := 0) (b := 1440) (by omega)
        have hA2 := Lib.hid (HN.out g hge hno.out)
        go_wp2_with (first | (go_at_call 63; refine (i_isDayMinute _ _).mono ?_; rintro e w' ⟨rfl, rfl⟩))
        go_ret2
        exact ⟨by rw [hA2.out]; rfl, kept_trans (kept_alloc (Below.refl _ _) _) hb2⟩
  all_goals
    have HF := Lib.hid (gf_no hv hw rfl)
    have HAW := Lib.hid (fun w => i_areWaters (.slice ao n cap) n wt w)
    have HBS := Lib.hid (fun f w => i_basined t r s p f w)
    rw [hv] at HBS
    rw [hw] at HAW
    have e0 : askCode false false = 1 := rfl
    have e1 : askCode false true = 1 := rfl
    have e2 : askCode true false = 2 := rfl
    clear HV HW
    go_enter Try.func31, Try.ntmps31
    go_wp2_with (fail)
    refine wp_region_quiet_below (by kernel_rfl) (by kernel_rfl) ?_
    repeat (go_big_quiet_step ((first | (go_at_call 62; exact Calls.regrown_of (HAW.out _ (HSA.kept (below_regrown _ _ _)))) | (go_at_call 61; exact Calls.regrown_of (HBS.out _ _)))))
    refine wpQuiet_nil ?_
    intro w2 hw2
    have hk := below_of_regrown hw2
    clear hw2 k0 k1 k2 k3
    obtain ⟨hc, hf⟩ := bcell hk
    have hz := hk.size
    try simp at hz
    go_wp2_with (fail)
    go_ret2
    exact ⟨by rw [HF.out]; rfl, kept_trans (kept_alloc (Below.refl _ _) _) hk⟩

set_option maxHeartbeats 1000000 in
theorem s_GapFor (t r s p : Int) (v : Value) (n : Nat) (wt : Nat → Int) (W : World) (hs : Sl W v 1 n (ic wt)) : Calls Try.prog 29 #[.agg #[.int .i64 t, .int .i64 r, .int .i64 s, .int .i64 p], v] W fun e W' => e = .returned (.tuple #[.int .i64 (gf t r s p n wt).1, .int .i64 (gf t r s p n wt).2]) ∧ Below W.heap.size W W' := by
  have HV := @vBasin_out t r s p
  have HW := @vWat_out n wt
  have HC := Lib.hid (fun g => s_l16Stores W.heap.size t r s p v n wt g)
  have HSA := hs.kept (kept_alloc (Below.refl _ _) (.cells #[.int .i64 t, .int .i64 r, .int .i64 s, .int .i64 p] 40))
  have q0 : (W.alloc (.cells #[.int .i64 t, .int .i64 r, .int .i64 s, .int .i64 p] 40)).cell? ⟨W.heap.size, 0, none⟩ = some (.int .i64 t) := boxed_at rfl rfl
  have q1 : (W.alloc (.cells #[.int .i64 t, .int .i64 r, .int .i64 s, .int .i64 p] 40)).cell? ⟨W.heap.size, 1, none⟩ = some (.int .i64 r) := boxed_at rfl rfl
  have q2 : (W.alloc (.cells #[.int .i64 t, .int .i64 r, .int .i64 s, .int .i64 p] 40)).cell? ⟨W.heap.size, 2, none⟩ = some (.int .i64 s) := boxed_at rfl rfl
  have q3 : (W.alloc (.cells #[.int .i64 t, .int .i64 r, .int .i64 s, .int .i64 p] 40)).cell? ⟨W.heap.size, 3, none⟩ = some (.int .i64 p) := boxed_at rfl rfl
  have HOK := Lib.hid (s_l16Ok t r s p _ _ q0 q1 q2 q3)
  have HWT := Lib.hid (s_l16Waters v n wt _ HSA)
  have Q2 := Lib.hid q2
  have Q3 := Lib.hid q3
  clear q0 q1 q2 q3
  obtain ⟨hn, ao, cap, rfl, hr⟩ := hs
  clear hr
  cases hv : vBasin t r s p <;> cases hw : vWat n wt
  case true.true =>
    have HF := Lib.hid (gf_yes hv hw)
    have hb := HV hv
    obtain ⟨n24, hzz⟩ := HW hw
    have HZ24 := Lib.hid hzz
    clear hzz
    have HPA := Lib.hid (gfP_at p s n wt)
    rw [hv] at HOK
    rw [hw] at HWT
    rw [HF.out]
    clear HV HW HF
    generalize gfP p s n wt = P at *
    have HA := Lib.hid (fun g => gf_at (P := P) (g := g))
    have HN := Lib.hid (fun g => gf_none (P := P) (g := g))
    have HX := Lib.hid (fun g => gf_next (P := P) (g := g))
    generalize gfIn P = R at *
    go_enter Try.func29, Try.ntmps29
    go_wp2_with (first | (go_at_call 58; refine HOK.out.mono ?_; rintro e w' ⟨rfl, rfl⟩) | (go_at_call 59; refine HWT.out.mono ?_; rintro e w' ⟨rfl, rfl⟩))
    go_loopw [6] (fun v wr => ∃ g : Int, 0 ≤ g ∧ g ≤ 1441 ∧ v = .int .i64 g ∧ Hid (∀ i : Nat, (i : Int) < g → P i = false) ∧ Below (W.alloc (.cells #[.int .i64 t, .int .i64 r, .int .i64 s, .int .i64 p] 40)).heap.size (W.alloc (.cells #[.int .i64 t, .int .i64 r, .int .i64 s, .int .i64 p] 40)) wr) (fun v _ => (1442 - intOf v).toNat)
    case atStart => exact ⟨0, by omega, by omega, rfl, fun i hi => absurd hi (by omega), Below.refl _ _⟩
    case round =>
      obtain ⟨g, hg0, hg1, rfl, hno, hb2⟩ := hrel
      rcases (show g ≤ 1440 ∨ 1440 < g by omega) with hlt | hge
      · have hcall := Lib.hid (HC.out g wr (HSA.kept hb2) n24 HZ24 (by omega) (by omega) ⟨hg0, hlt⟩ (cell_keep hb2 Q2.out) (cell_keep hb2 Q3.out))
        have hp := HPA.out g hg0
        have hA := Lib.hid (HA.out g ⟨hg0, hlt⟩ hno.out)
        have hX := Lib.hid (HX.out g hg0 hno.out)
        cases hok : stOk n wt (p * g) s
        · have hN2 := Lib.hid (hX.out (hp.trans hok))
          rw [hok] at hcall
          clear hp hok hA hX HC
          go_wp2_with (go_at_call 60; refine hcall.out.mono ?_; rintro e w3 ⟨gg, rfl, hb3, ho3⟩)
          go_roundw
          case rel => exact ⟨g + 1, by omega, by omega, rfl, hN2, kept_trans hb2 hb3⟩
          case measure => simp [intOf]; omega
        · have hA2 := Lib.hid (hA.out (hp.trans hok))
          rw [hok] at hcall
          clear hp hok hA hX HC
          go_wp2_with (go_at_call 60; refine hcall.out.mono ?_; rintro e w3 ⟨gg, rfl, hb3, ho3⟩)
          go_ret2
          exact ⟨by rw [hA2.out]; rfl, kept_trans (kept_trans (kept_alloc (Below.refl _ _) _) hb2) hb3⟩
      · have hA2 := Lib.hid (HN.out g hge hno.out)
        go_wp2_with fail
        go_ret2
        exact ⟨by rw [hA2.out]; rfl, kept_trans (kept_alloc (Below.refl _ _) _) hb2⟩
  all_goals
    have HF := Lib.hid (gf_no hv hw rfl)
    rw [hv] at HOK
    rw [hw] at HWT
    clear HV HW
    go_enter Try.func29, Try.ntmps29
    go_wp2_with (first | (go_at_call 58; refine HOK.out.mono ?_; rintro e w' ⟨rfl, rfl⟩) | (go_at_call 59; refine HWT.out.mono ?_; rintro e w' ⟨rfl, rfl⟩))
    go_ret2
    exact ⟨by rw [HF.out]; rfl, kept_alloc (Below.refl _ _) _⟩

theorem l_GapFor {W : World} (t r s p : Int) (v : Value) (n : Nat) (z : Nat → Int) (hs : Sl W v 1 n (ic z)) (_hz : ∀ i, i < n → -9223372036854775808 ≤ z i ∧ z i ≤ 9223372036854775807) : Calls Try.prog 9 #[.agg #[.int .i64 t, .int .i64 r, .int .i64 s, .int .i64 p], v] W (Truly W) :=
  l_GapFor_of t r s p v n z hs _ _ (fun w q h => s_GapFor t r s p q n z w h) (fun w q h => i_GapFor t r s p q n z w h)

end Go.Proofs.Ytobpeiimiglknaa
