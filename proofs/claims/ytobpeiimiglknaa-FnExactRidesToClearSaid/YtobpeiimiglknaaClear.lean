/- How many rides there are until all are gone: the reference, and the law. -/
import Derived.Test.YtobpeiimiglknaaWaitJ
namespace Go.Proofs.Ytobpeiimiglknaa
open Go.RowKit Go.Deep
set_option linter.unusedVariables false
set_option maxRecDepth 100000

/-- The last minute in which persons come: behind k minutes. -/
def LastZ (z : Nat → Int) (k l : Nat) : Prop := l ≤ k ∧ (∀ i, l ≤ i → i < k → z i ≤ 0) ∧ (l = 0 ∨ 0 < z (l - 1))
theorem last_start (z : Nat → Int) : LastZ z 0 0 := ⟨Nat.le_refl _, fun i _ h => by omega, .inl rfl⟩
theorem last_new {z : Nat → Int} {k l : Nat} (h : LastZ z k l) (hz : 0 < z k) : LastZ z (k + 1) (k + 1) := ⟨Nat.le_refl _, fun i _ h => by omega, .inr (by simpa using hz)⟩
theorem last_old {z : Nat → Int} {k l : Nat} (h : LastZ z k l) (hz : z k ≤ 0) : LastZ z (k + 1) l :=
  ⟨by have := h.1; omega, fun i h1 h2 => by
    by_cases e : i = k
    · rw [e]; exact hz
    · exact h.2.1 i h1 (by omega), h.2.2⟩
section
variable {n : Nat} {z : Nat → Int} {ev se T M : Nat} {C S : Nat → Nat} {wt cw : Nat → Int} {R : Int}
theorem last_C (h : Serve n z ev se T M C S wt cw R) {l : Nat} (hl : LastZ z n l) : ∀ d, l + d ≤ n → C (l + d) = C l
  | 0, _ => rfl
  | d + 1, hd => by
    have h1 := h.cin (l + d) (by omega)
    have h2 := hl.2.1 (l + d) (by omega) (by omega)
    have h3 := h.cup (l + d)
    have h4 := last_C h hl d (by omega)
    rw [← Nat.add_assoc]
    omega
theorem last_T (h : Serve n z ev se T M C S wt cw R) {l : Nat} (hl : LastZ z n l) {k : Nat} (hk : l ≤ k) : C k = T := by
  by_cases hkn : n ≤ k
  · exact h.cend k hkn
  · have h1 := last_C h hl (k - l) (by omega)
    have h2 := last_C h hl (n - l) (by have := hl.1; omega)
    have h3 := h.cend n (Nat.le_refl _)
    rw [show l + (k - l) = k by omega] at h1
    rw [show l + (n - l) = n by have := hl.1; omega] at h2
    omega
theorem last_lt (h : Serve n z ev se T M C S wt cw R) {l : Nat} (hl : LastZ z n l) {k : Nat} (hk : k < l) : C k < T := by
  rcases hl.2.2 with h0 | h0
  · omega
  · have h1 := h.cin (l - 1) (by have := hl.1; omega)
    have h2 := last_T h hl (Nat.le_refl l)
    have h3 := mono_of h.cup (show k ≤ l - 1 by omega)
    rw [show l - 1 + 1 = l by omega] at h1
    omega
theorem last_none (h : Serve n z ev se T M C S wt cw R) (hl : LastZ z n 0) : R = 0 := by
  have h1 := last_T h hl (Nat.le_refl 0)
  have h2 := h.c0
  have h3 := h.fin 0 (fun j hj => by omega) (by omega)
  rw [h3]; simp
end
attribute [irreducible] LastZ

set_option maxHeartbeats 3200000 in
theorem s_RidesToClear (v : Value) (n : Nat) (z : Nat → Int) (ev se : Int) (W : World) (hs : Sl W v 1 n (ic z)) : Calls Try.prog 21 #[v, .int .i64 ev, .int .i64 se] W fun e W' => e = .returned (.tuple #[.int .i64 (rcR n z ev se).1, .int .i64 (rcR n z ev se).2]) ∧ Below W.heap.size W W' := by
  have HA := Lib.hid (fun w => s_l20Ask v n z ev se w)
  have HS := hs
  obtain ⟨hn, ao, cap, rfl, hr⟩ := hs
  rcases ask_cases (vArr n z) (inB ev 1 60 && inB se 1 1000) with ⟨c, hc, hc1, -⟩ | ⟨hv, hb, hc⟩
  · rw [rcR_no hc hc1]
    rw [hc] at HA
    clear hc hr
    rcases hc1 with rfl | rfl
    all_goals
      go_enter Try.func21, Try.ntmps21
      go_wp2_with (go_at_call 43; refine (HA.out _ HS).mono ?_; rintro e w1 ⟨rfl, hb1⟩)
      refine bodyPost_ret (results_tmp2 rfl _ _ _) rfl ⟨rfl, hb1⟩
  · rw [rcR_yes hc]
    rw [hc] at HA
    clear hc
    rw [Bool.and_eq_true] at hb
    obtain ⟨h1, h2⟩ := hb
    obtain ⟨e, s, T, M, C, S, wt, cw, R, rfl, rfl, e1, e2, s1, s2, HSV, hT, hM, HST, -, -, HR, n60, n1, HZ⟩ := serve_of hv h1 h2
    rw [← HR.out]
    rcases hr with h0 | ⟨g, off, rfl, hr⟩
    · omega
    have LN := Lib.hid (fun (k l : Nat) h h1 => last_new (z := z) (k := k) (l := l) h h1)
    have LO := Lib.hid (fun (k l : Nat) h h1 => last_old (z := z) (k := k) (l := l) h h1)
    have L0 := Lib.hid (last_start z)
    have LX := Lib.hid (fun h => last_none HSV.out h)
    have LT := Lib.hid (fun (l : Nat) hl (k : Nat) hk => last_T (l := l) HSV.out hl (k := k) hk)
    have LL := Lib.hid (fun (l : Nat) hl (k : Nat) hk => last_lt (l := l) HSV.out hl (k := k) hk)
    have hM0 : 0 < M := by have := HSV.out.nM; omega
    clear HST HR h1 h2 hv
    go_enter Try.func21, Try.ntmps21
    go_wp2_with (go_at_call 43; refine (HA.out _ HS).mono ?_; rintro e w1 ⟨rfl, hb1⟩)
    have HRW := Lib.hid (hr.kept hb1)
    clear hr HA
    go_loopw [9, 10] (fun lv m wr => ∃ (k l : Nat), k ≤ n ∧ l ≤ k ∧ m = .int .i64 ((k : Int) + 1) ∧ lv = .int .i64 l ∧ Hid (LastZ z k l) ∧ Below w1.heap.size w1 wr) (fun _ m _ => n + 1 - (intOf m).toNat)
    case atStart => exact ⟨0, 0, by omega, by omega, rfl, rfl, L0, Below.refl _ _⟩
    case round =>
      obtain ⟨k, l, hk, hlk, rfl, rfl, hL, hbl⟩ := hrel
      by_cases hkn : k < n
      · have hcell := (HRW.out.kept hbl).cell (i := k) (by omega)
        simp only [ic] at hcell
        have hkn' : ((k : Int) + 1) ≤ (n : Int) := by omega
        rcases (show 0 < z k ∨ z k ≤ 0 by omega) with hz | hz
        · have HN := Lib.hid (LN.out k l hL.out hz)
          go_wp2
          go_roundw
          case rel => exact ⟨k + 1, k + 1, by omega, by omega, by go_num, by go_num, HN, hbl⟩
          case measure => simp [intOf]; omega
        · have HN := Lib.hid (LO.out k l hL.out hz)
          go_wp2
          go_roundw
          case rel => exact ⟨k + 1, l, by omega, by omega, by go_num, rfl, HN, hbl⟩
          case measure => simp [intOf]; omega
      · obtain rfl : k = n := by omega
        have hkn' : (k : Int) < (k : Int) + 1 := by omega
        rcases (show l = 0 ∨ 0 < l by omega) with h0 | h0
        · subst h0
          have HX := Lib.hid (LX.out hL.out)
          go_wp2
          refine bodyPost_ret (results_tmp2 rfl _ _ _) rfl ⟨by rw [HX.out]; rfl, kept_trans hb1 hbl⟩
        · have h0' : ¬ (l : Int) = 0 := by omega
          have LT := Lib.hid (LT.out l hL.out)
          have LL := Lib.hid (LL.out l hL.out)
          clear LN LO L0 LX hL
          go_wp2
          generalize ((l : Int) == 0) = q0
          go_loopw [11, 12, 13] (fun nw rs m wr => ∃ (i : Nat) (N rr : Int), i < M ∧ m = .int .i64 ((i : Int) + 1) ∧ nw = .int .i64 N ∧ rs = .int .i64 rr ∧ Hid (N = (C i : Int) - (S i : Int)) ∧ 0 ≤ N ∧ N ≤ 6000000 ∧ Hid (rr = ((i / e : Nat) : Int)) ∧ 0 ≤ rr ∧ rr ≤ i ∧ Hid (∀ j, j < i → S j < T) ∧ Below w1.heap.size w1 wr) (fun _ _ m _ => M + 1 - (intOf m).toNat)
          case atStart => exact ⟨0, 0, 0, hM0, rfl, rfl, rfl, by show (0 : Int) = _; rw [HSV.out.c0, HSV.out.s0]; rfl, by omega, by omega, by show (0 : Int) = ((0 / e : Nat) : Int); simp, by omega, by omega, fun j hj => by omega, hbl⟩
          case round =>
            clear h0'
            obtain ⟨i, N, rr, hiM, rfl, rfl, rfl, hN, N0, N1, hrr, rr0, rr1, hno, hb⟩ := hrel
            have sle := HSV.out.sle i
            have cle := HSV.out.cle i
            have cle1 := HSV.out.cle (i + 1)
            have cup := HSV.out.cup i
            have hNv := hN.out
            have ee : (1 : Int) ≤ (e : Int) := by omega
            have hNa : N ≤ (C i : Int) - (S i : Int) := by omega
            have hNb : (C i : Int) - (S i : Int) ≤ N := by omega
            clear hNv
            by_cases hil : i < l
            · have hcl := LL.out i hil
              have hil' : ((i : Int) + 1) ≤ (l : Int) := by omega
              have hgo : S i < T := by omega
              have hin : i < k := by omega
              have hiM1 := HSV.out.bd i hgo
              have HNO : Hid (∀ j, j < i + 1 → S j < T) := fun j hj => by
                by_cases e : j = i
                · rw [e]; exact hgo
                · exact hno.out j (by omega)
              clear hno hcl
              have hcin := HSV.out.cin i hin
              have hcell := (HRW.out.kept hb).cell (i := i) (by omega)
              simp only [ic] at hcell
              have hin' : ((i : Int) + 1) ≤ (k : Int) := by omega
              have hz := HZ.out i hin
              have HN2a : N + z i ≤ (C (i + 1) : Int) - (S i : Int) := by omega
              have HN2b : (C (i + 1) : Int) - (S i : Int) ≤ N + z i := by omega
              clear hcin
              by_cases hmod : (i + 1) % e = 0
              · have hm : ((i : Int) + 1) % (e : Int) = 0 := by rw [show (i : Int) + 1 = ((i + 1 : Nat) : Int) by omega, ← Int.natCast_emod, hmod]; rfl
                have HSR := HSV.out.sride i hmod
                have HRD := Lib.hid (div_ride i e e1 hmod)
                rcases (show 0 ≤ (N + z i) - (s : Int) ∨ (N + z i) - (s : Int) < 0 by omega) with hmx | hmx
                · have HNX : Hid ((N + z i) - (s : Int) = (C (i + 1) : Int) - (S (i + 1) : Int)) := by show _ = _; omega
                  have HMX := Lib.hid (fun w => s_l00Max_r 0 ((N + z i) - (s : Int)) w hmx)
                  have hbd : (N + z i) - (s : Int) ≤ 6000000 := by omega
                  clear HSR hN hNa hNb HN2a HN2b cup cle1 sle cle
                  go_wp2_with (go_at_call 48; refine (HMX.out _).mono ?_; rintro e w' ⟨rfl, rfl⟩)
                  go_roundw
                  case rel => exact ⟨i + 1, _, rr + 1, by omega, by go_num, rfl, rfl, HNX, by omega, by omega, by show rr + 1 = _; rw [HRD.out, hrr.out], by omega, by omega, HNO, hb⟩
                  case measure => simp [intOf]; omega
                · have HNX : Hid ((0 : Int) = (C (i + 1) : Int) - (S (i + 1) : Int)) := by show _ = _; omega
                  have HMX := Lib.hid (fun w => s_l00Max_l 0 ((N + z i) - (s : Int)) w (by omega))
                  clear HSR hN hNa hNb HN2a HN2b cup cle1 sle cle
                  go_wp2_with (go_at_call 48; refine (HMX.out _).mono ?_; rintro e w' ⟨rfl, rfl⟩)
                  go_roundw
                  case rel => exact ⟨i + 1, 0, rr + 1, by omega, by go_num, rfl, rfl, HNX, by omega, by omega, by show rr + 1 = _; rw [HRD.out, hrr.out], by omega, by omega, HNO, hb⟩
                  case measure => simp [intOf]; omega
              · have hm : ¬ ((i : Int) + 1) % (e : Int) = 0 := fun ee => hmod (by rw [show (i : Int) + 1 = ((i + 1 : Nat) : Int) by omega, ← Int.natCast_emod] at ee; omega)
                have HSR := HSV.out.snone i hmod
                have HRD := Lib.hid (div_none i e e1 hmod)
                have HNX : Hid ((N + z i) = (C (i + 1) : Int) - (S (i + 1) : Int)) := by show _ = _; omega
                have hbd : 0 ≤ (N + z i) ∧ (N + z i) ≤ 6000000 := by omega
                clear HSR hN hNa hNb HN2a HN2b cup cle1 sle cle
                go_wp2_with fail
                go_roundw
                case rel => exact ⟨i + 1, _, rr, by omega, by go_num, rfl, rfl, HNX, by omega, by omega, by show rr = _; rw [HRD.out, hrr.out], by omega, by omega, HNO, hb⟩
                case measure => simp [intOf]; omega
            · have hcl : T ≤ C i := by rw [LT.out i (by omega)]; exact Nat.le_refl _
              have hil' : (l : Int) < ((i : Int) + 1) := by omega
              by_cases hgo : S i < T
              · have hpos : 0 < N := by omega
                have hiM1 := HSV.out.bd i hgo
                have HNO : Hid (∀ j, j < i + 1 → S j < T) := fun j hj => by
                  by_cases e : j = i
                  · rw [e]; exact hgo
                  · exact hno.out j (by omega)
                clear hno hcl
                by_cases hin : i < k
                · have hcin := HSV.out.cin i hin
                  have hcell := (HRW.out.kept hb).cell (i := i) (by omega)
                  simp only [ic] at hcell
                  have hin' : ((i : Int) + 1) ≤ (k : Int) := by omega
                  have hz := HZ.out i hin
                  have HN2a : N + z i ≤ (C (i + 1) : Int) - (S i : Int) := by omega
                  have HN2b : (C (i + 1) : Int) - (S i : Int) ≤ N + z i := by omega
                  clear hcin
                  by_cases hmod : (i + 1) % e = 0
                  · have hm : ((i : Int) + 1) % (e : Int) = 0 := by rw [show (i : Int) + 1 = ((i + 1 : Nat) : Int) by omega, ← Int.natCast_emod, hmod]; rfl
                    have HSR := HSV.out.sride i hmod
                    have HRD := Lib.hid (div_ride i e e1 hmod)
                    rcases (show 0 ≤ (N + z i) - (s : Int) ∨ (N + z i) - (s : Int) < 0 by omega) with hmx | hmx
                    · have HNX : Hid ((N + z i) - (s : Int) = (C (i + 1) : Int) - (S (i + 1) : Int)) := by show _ = _; omega
                      have HMX := Lib.hid (fun w => s_l00Max_r 0 ((N + z i) - (s : Int)) w hmx)
                      have hbd : (N + z i) - (s : Int) ≤ 6000000 := by omega
                      clear HSR hN hNa hNb HN2a HN2b cup cle1 sle cle
                      go_wp2_with (go_at_call 48; refine (HMX.out _).mono ?_; rintro e w' ⟨rfl, rfl⟩)
                      go_roundw
                      case rel => exact ⟨i + 1, _, rr + 1, by omega, by go_num, rfl, rfl, HNX, by omega, by omega, by show rr + 1 = _; rw [HRD.out, hrr.out], by omega, by omega, HNO, hb⟩
                      case measure => simp [intOf]; omega
                    · have HNX : Hid ((0 : Int) = (C (i + 1) : Int) - (S (i + 1) : Int)) := by show _ = _; omega
                      have HMX := Lib.hid (fun w => s_l00Max_l 0 ((N + z i) - (s : Int)) w (by omega))
                      clear HSR hN hNa hNb HN2a HN2b cup cle1 sle cle
                      go_wp2_with (go_at_call 48; refine (HMX.out _).mono ?_; rintro e w' ⟨rfl, rfl⟩)
                      go_roundw
                      case rel => exact ⟨i + 1, 0, rr + 1, by omega, by go_num, rfl, rfl, HNX, by omega, by omega, by show rr + 1 = _; rw [HRD.out, hrr.out], by omega, by omega, HNO, hb⟩
                      case measure => simp [intOf]; omega
                  · have hm : ¬ ((i : Int) + 1) % (e : Int) = 0 := fun ee => hmod (by rw [show (i : Int) + 1 = ((i + 1 : Nat) : Int) by omega, ← Int.natCast_emod] at ee; omega)
                    have HSR := HSV.out.snone i hmod
                    have HRD := Lib.hid (div_none i e e1 hmod)
                    have HNX : Hid ((N + z i) = (C (i + 1) : Int) - (S (i + 1) : Int)) := by show _ = _; omega
                    have hbd : 0 ≤ (N + z i) ∧ (N + z i) ≤ 6000000 := by omega
                    clear HSR hN hNa hNb HN2a HN2b cup cle1 sle cle
                    go_wp2_with fail
                    go_roundw
                    case rel => exact ⟨i + 1, _, rr, by omega, by go_num, rfl, rfl, HNX, by omega, by omega, by show rr = _; rw [HRD.out, hrr.out], by omega, by omega, HNO, hb⟩
                    case measure => simp [intOf]; omega
                · have hcout := HSV.out.cout i (by omega)
                  have hin' : (k : Int) < ((i : Int) + 1) := by omega
                  have HN2a : N ≤ (C (i + 1) : Int) - (S i : Int) := by omega
                  have HN2b : (C (i + 1) : Int) - (S i : Int) ≤ N := by omega
                  clear hcout
                  by_cases hmod : (i + 1) % e = 0
                  · have hm : ((i : Int) + 1) % (e : Int) = 0 := by rw [show (i : Int) + 1 = ((i + 1 : Nat) : Int) by omega, ← Int.natCast_emod, hmod]; rfl
                    have HSR := HSV.out.sride i hmod
                    have HRD := Lib.hid (div_ride i e e1 hmod)
                    rcases (show 0 ≤ N - (s : Int) ∨ N - (s : Int) < 0 by omega) with hmx | hmx
                    · have HNX : Hid (N - (s : Int) = (C (i + 1) : Int) - (S (i + 1) : Int)) := by show _ = _; omega
                      have HMX := Lib.hid (fun w => s_l00Max_r 0 (N - (s : Int)) w hmx)
                      have hbd : N - (s : Int) ≤ 6000000 := by omega
                      clear HSR hN hNa hNb HN2a HN2b cup cle1 sle cle
                      go_wp2_with (go_at_call 48; refine (HMX.out _).mono ?_; rintro e w' ⟨rfl, rfl⟩)
                      go_roundw
                      case rel => exact ⟨i + 1, _, rr + 1, by omega, by go_num, rfl, rfl, HNX, by omega, by omega, by show rr + 1 = _; rw [HRD.out, hrr.out], by omega, by omega, HNO, hb⟩
                      case measure => simp [intOf]; omega
                    · have HNX : Hid ((0 : Int) = (C (i + 1) : Int) - (S (i + 1) : Int)) := by show _ = _; omega
                      have HMX := Lib.hid (fun w => s_l00Max_l 0 (N - (s : Int)) w (by omega))
                      clear HSR hN hNa hNb HN2a HN2b cup cle1 sle cle
                      go_wp2_with (go_at_call 48; refine (HMX.out _).mono ?_; rintro e w' ⟨rfl, rfl⟩)
                      go_roundw
                      case rel => exact ⟨i + 1, 0, rr + 1, by omega, by go_num, rfl, rfl, HNX, by omega, by omega, by show rr + 1 = _; rw [HRD.out, hrr.out], by omega, by omega, HNO, hb⟩
                      case measure => simp [intOf]; omega
                  · have hm : ¬ ((i : Int) + 1) % (e : Int) = 0 := fun ee => hmod (by rw [show (i : Int) + 1 = ((i + 1 : Nat) : Int) by omega, ← Int.natCast_emod] at ee; omega)
                    have HSR := HSV.out.snone i hmod
                    have HRD := Lib.hid (div_none i e e1 hmod)
                    have HNX : Hid (N = (C (i + 1) : Int) - (S (i + 1) : Int)) := by show _ = _; omega
                    have hbd : 0 ≤ N ∧ N ≤ 6000000 := by omega
                    clear HSR hN hNa hNb HN2a HN2b cup cle1 sle cle
                    go_wp2_with fail
                    go_roundw
                    case rel => exact ⟨i + 1, _, rr, by omega, by go_num, rfl, rfl, HNX, by omega, by omega, by show rr = _; rw [HRD.out, hrr.out], by omega, by omega, HNO, hb⟩
                    case measure => simp [intOf]; omega
              · have hpos : N ≤ 0 := by omega
                have HR := Lib.hid (HSV.out.fin i hno.out (by omega))
                clear hN hNa hNb cup cle1 sle cle hcl
                go_wp2_with fail
                refine bodyPost_ret (results_tmp2 rfl _ _ _) rfl ⟨by rw [HR.out, ← hrr.out]; rfl, kept_trans hb1 hb⟩

theorem l_RidesToClear {W : World} (v : Value) (n : Nat) (z : Nat → Int) (hs : Sl W v 1 n (ic z)) (ev se : Int) : Calls Try.prog 5 #[v, .int .i64 ev, .int .i64 se] W (Truly W) :=
  l_RidesToClear_of v n z ev se hs _ _ (fun w u h => s_RidesToClear u n z ev se w h) (fun w u h => i_RidesToClear u n z ev se w h)

end Go.Proofs.Ytobpeiimiglknaa
