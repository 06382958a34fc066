/- The waters of trips: the reference, and the law. -/
import Derived.Test.YtobpeiimiglknaaTrips
namespace Go.Proofs.Ytobpeiimiglknaa
open Go.RowKit Go.Deep
set_option linter.unusedVariables false

theorem Out.empty_at {w : World} {e : TypeId} {k b B : Nat} {f : Nat → Value} (hk : w.heap.size = b) (hB : B ≤ w.heap.size) : Out (w.alloc (.cells #[] e)) B e k (.slice (some ⟨b, 0, none⟩) 0 0) 0 f := by
  subst hk
  exact Out.empty _ _ _ _ _ hB

set_option maxHeartbeats 1600000 in
theorem s_TripWaters (t r s p : Int) (v : Value) (n : Nat) (a : Nat → Int) (v2 : Value) (m : Nat) (b : Nat → Int) (rp gr nd : Int) (W : World) (hs : Sl W v 1 n (ic a)) (hs2 : Sl W v2 1 m (ic b)) :
    Calls Try.prog 36 #[.agg #[.int .i64 t, .int .i64 r, .int .i64 s, .int .i64 p], v, v2, .int .i64 rp, .int .i64 gr, .int .i64 nd] W (TwPost (twRes t r s p n a m b rp gr nd) (twF t a b rp gr nd) W) := by
  obtain ⟨i0, hi, hz0, hz1, hz2⟩ := info_parts infoInt
  have q0 : (W.alloc (.cells #[.int .i64 t, .int .i64 r, .int .i64 s, .int .i64 p] 40)).cell? ⟨W.heap.size, 0, none⟩ = some (.int .i64 t) := boxed_at rfl rfl
  have q1 : (W.alloc (.cells #[.int .i64 t, .int .i64 r, .int .i64 s, .int .i64 p] 40)).cell? ⟨W.heap.size, 1, none⟩ = some (.int .i64 r) := boxed_at rfl rfl
  have q2 : (W.alloc (.cells #[.int .i64 t, .int .i64 r, .int .i64 s, .int .i64 p] 40)).cell? ⟨W.heap.size, 2, none⟩ = some (.int .i64 s) := boxed_at rfl rfl
  have q3 : (W.alloc (.cells #[.int .i64 t, .int .i64 r, .int .i64 s, .int .i64 p] 40)).cell? ⟨W.heap.size, 3, none⟩ = some (.int .i64 p) := boxed_at rfl rfl
  have HOK := Lib.hid (s_l16Ok t r s p _ _ q0 q1 q2 q3)
  have Q0 := Lib.hid q0
  clear q0 q1 q2 q3
  have KB := kept_alloc (Below.refl W.heap.size W) (.cells #[.int .i64 t, .int .i64 r, .int .i64 s, .int .i64 p] 40)
  have hn := hs.1
  obtain ⟨-, ao, cap, rfl, hr⟩ := hs
  obtain ⟨hm, ao2, cap2, rfl, hr2⟩ := hs2
  unfold TwPost
  cases hv : vBasin t r s p
  · have HF := Lib.hid (twRes_1 (n := n) (a := a) (m := m) (b := b) (rp := rp) (gr := gr) (nd := nd) hv)
    rw [hv] at HOK
    clear hr hr2
    go_enter Try.func36, Try.ntmps36
    go_wp2_with (go_at_call 58; refine HOK.out.mono ?_; rintro e w' ⟨rfl, rfl⟩)
    refine bodyPost_ret (results_tmp2 rfl _ _ _) rfl ⟨_, by rw [HF.out]; rfl, KB, by rw [HF.out]; exact Out.nil _ _ _ _ _⟩
  · have HB0 := vBasin_out hv
    rw [hv] at HOK
    by_cases hnm : n = m
    · subst hnm
      have hnm' : ((n : Int) == n) = true := by simp
      have HY := Lib.hid (fun h => twRes_0 (n := n) (a := a) (b := b) (rp := rp) (gr := gr) (nd := nd) hv h)
      have HN := Lib.hid (fun h => twRes_2 (n := n) (a := a) (b := b) (rp := rp) (gr := gr) (nd := nd) hv h)
      have HO := @twRange_out n a b rp gr nd
      have HPL := Lib.hid (fun i => twPair_l (a := a) (b := b) (i := i))
      have HPR := Lib.hid (fun i => twPair_r (a := a) (b := b) (i := i))
      have HPY := Lib.hid (fun i => twPair_y (a := a) (b := b) (i := i))
      clear hv
      rcases twRange_s n a b rp gr nd with ⟨h1, hRR⟩ | ⟨h1, h2, hRR⟩ | ⟨h1, h2, h3, hRR⟩ | ⟨h1, h2, h3, hRR⟩
      case inr.inr.inr =>
        have HRR := Lib.hid hRR
        have HO2 := Lib.hid HO
        clear hRR HO
        generalize twRange n a b rp gr nd = RR at *
        generalize twPair a b = P at *
        have HW : Hid (RR = true → ∀ i, i < n → ∀ w, w.cell? ⟨W.heap.size, 0, none⟩ = some (.int .i64 t) → Calls Try.prog 68 #[.pointer (some ⟨W.heap.size, 0, none⟩), .int .i64 (a i), .int .i64 (b i), .int .i64 rp, .int .i64 gr, .int .i64 nd] w fun e W' => e = .returned (.int .i64 (if twF t a b rp gr nd i ≤ t then twF t a b rp gr nd i else -1)) ∧ Below w.heap.size w W') := fun hR i hi w hw => by
          obtain ⟨-, hrp, hgr, hab⟩ := HO2.out hR
          have h := hab i hi
          exact (s_l16Water W.heap.size t (a i) (b i) rp gr nd w hw (by omega) h.1 h.2 hrp hgr).mono fun _ _ ⟨h1, h2⟩ => ⟨h1, h2 ▸ Below.refl _ _⟩
        have HF0 : Hid (∀ i, 0 ≤ twF t a b rp gr nd i) := fun i => (wtF_bd t (a i) (b i) rp gr nd (by omega)).1
        have HON := Lib.hid (fun k => twOk_no (n := n) (F := twF t a b rp gr nd) (t := t) (k := k))
        have HOY := Lib.hid (twOk_yes (n := n) (F := twF t a b rp gr nd) (t := t))
        generalize twF t a b rp gr nd = F at *
        clear HO2
        rcases hr with h0 | ⟨g, off, rfl, hr⟩
        · have hRT := HRR.out
          rw [allTo_yes (fun i hi => by omega)] at hRT
          have hok := HOY.out (fun i hi => by omega)
          have hF := HY.out hRT
          obtain rfl : n = 0 := by omega
          rw [hok, twEnd_yes] at hF
          have HF := Lib.hid hF
          clear hF hr2 hRT
          go_enter Try.func36, Try.ntmps36
          go_wp2_with (first | (go_at_call 58; refine HOK.out.mono ?_; rintro e w' ⟨rfl, rfl⟩) | (go_at_call 66; refine (s_l16Three _ _ _ _).mono ?_; rintro e w' ⟨rfl, rfl⟩) | (go_at_call 67; refine (s_l04Rides _ _).mono ?_; rintro e w' ⟨rfl, rfl⟩))
          refine wp_loop_rounds 1 ?_
          rw [rounds_succ]
          go_wp2
          refine wp_loop_rounds 1 ?_
          rw [rounds_succ]
          go_wp2
          refine bodyPost_ret (results_tmp2 rfl _ _ _) rfl ⟨_, by rw [HF.out]; rfl, (by repeat (first | assumption | exact Below.refl _ _ | refine kept_drew ?_ | refine kept_drewN ?_ _ | refine kept_alloc ?_ _ | refine kept_set ?_ ?_ _ | (simp; done) | (simp; omega) | refine kept_trans ?_ (by assumption))), by rw [HF.out]; exact Out.empty_at (by simp) KB.size⟩
        rcases hr2 with h0 | ⟨g2, off2, rfl, hr2⟩
        · have hRT := HRR.out
          rw [allTo_yes (fun i hi => by omega)] at hRT
          have hok := HOY.out (fun i hi => by omega)
          have hF := HY.out hRT
          obtain rfl : n = 0 := by omega
          rw [hok, twEnd_yes] at hF
          have HF := Lib.hid hF
          clear hF hr hRT
          go_enter Try.func36, Try.ntmps36
          go_wp2_with (first | (go_at_call 58; refine HOK.out.mono ?_; rintro e w' ⟨rfl, rfl⟩) | (go_at_call 66; refine (s_l16Three _ _ _ _).mono ?_; rintro e w' ⟨rfl, rfl⟩) | (go_at_call 67; refine (s_l04Rides _ _).mono ?_; rintro e w' ⟨rfl, rfl⟩))
          refine wp_loop_rounds 1 ?_
          rw [rounds_succ]
          go_wp2
          refine wp_loop_rounds 1 ?_
          rw [rounds_succ]
          go_wp2
          refine bodyPost_ret (results_tmp2 rfl _ _ _) rfl ⟨_, by rw [HF.out]; rfl, (by repeat (first | assumption | exact Below.refl _ _ | refine kept_drew ?_ | refine kept_drewN ?_ _ | refine kept_alloc ?_ _ | refine kept_set ?_ ?_ _ | (simp; done) | (simp; omega) | refine kept_trans ?_ (by assumption))), by rw [HF.out]; exact Out.empty_at (by simp) KB.size⟩
        have HR1 := Lib.hid (hr.kept KB)
        have HR2 := Lib.hid (hr2.kept KB)
        clear hr hr2
        go_enter Try.func36, Try.ntmps36
        go_wp2_with (first | (go_at_call 58; refine HOK.out.mono ?_; rintro e w' ⟨rfl, rfl⟩) | (go_at_call 66; refine (s_l16Three _ _ _ _).mono ?_; rintro e w' ⟨rfl, rfl⟩) | (go_at_call 67; refine (s_l04Rides _ _).mono ?_; rintro e w' ⟨rfl, rfl⟩))
        go_loop [14] (fun i => ∃ k : Nat, k ≤ n ∧ i = .int .i64 k ∧ Hid (∀ i, i < k → P i = true)) (fun i => n - (intOf i).toNat)
        case atStart => exact ⟨0, Nat.zero_le _, rfl, fun i hi => absurd hi (by omega)⟩
        case round =>
          obtain ⟨j, hj, rfl, hno⟩ := hrel
          by_cases hlt : j < n
          · have s0 := HR1.out.cell (i := j) (by omega)
            have s1 := HR2.out.cell (i := j) (by omega)
            simp only [ic] at s0 s1
            cases ha : inB (a j) 0 100000
            · have HF := Lib.hid (HN.out (by rw [HRR.out]; exact allTo_no hlt (HPL.out j ha)))
              go_wp2_with (go_at_call 65; refine (s_l04Kilos _ _).mono ?_; rintro e w' ⟨rfl, rfl⟩)
              refine bodyPost_ret (results_tmp2 rfl _ _ _) rfl ⟨_, by rw [HF.out]; rfl, KB, by rw [HF.out]; exact Out.nil _ _ _ _ _⟩
            · cases hb : inB (b j) 0 100000
              · have HF := Lib.hid (HN.out (by rw [HRR.out]; exact allTo_no hlt (HPR.out j ha hb)))
                go_wp2_with (go_at_call 65; refine (s_l04Kilos _ _).mono ?_; rintro e w' ⟨rfl, rfl⟩)
                refine bodyPost_ret (results_tmp2 rfl _ _ _) rfl ⟨_, by rw [HF.out]; rfl, KB, by rw [HF.out]; exact Out.nil _ _ _ _ _⟩
              · have HN2 : Hid (∀ i, i < j + 1 → P i = true) := fun i hi => by
                  by_cases e : i = j
                  · rw [e]; exact HPY.out j ha hb
                  · exact hno.out i (by omega)
                go_wp2_with (go_at_call 65; refine (s_l04Kilos _ _).mono ?_; rintro e w' ⟨rfl, rfl⟩)
                go_round
                case rel => exact ⟨j + 1, by omega, by go_num, HN2⟩
                case measure => simp [intOf]; omega
          · have hjn : j = n := by omega
            subst hjn
            have hRT := HRR.out
            rw [allTo_yes hno.out] at hRT
            have HF := Lib.hid (HY.out hRT)
            have HW := Lib.hid (HW.out hRT)
            clear hRT HY HN HPL HPR HPY hno
            have KW := KB
            go_wp2
            go_loopw [15, 16] (fun u i wr => ∃ (k : Nat) (x : Value), k ≤ j ∧ i = .int .i64 k ∧ x = u ∧ Hid (∀ i, i < k → F i ≤ t) ∧ Below (W.alloc (.cells #[.int .i64 t, .int .i64 r, .int .i64 s, .int .i64 p] 40)).heap.size (W.alloc (.cells #[.int .i64 t, .int .i64 r, .int .i64 s, .int .i64 p] 40)) wr ∧ Out wr (W.alloc (.cells #[.int .i64 t, .int .i64 r, .int .i64 s, .int .i64 p] 40)).heap.size 2 1 x k (ic F)) (fun _ i _ => j - (intOf i).toNat)
            case atStart => exact ⟨0, _, Nat.zero_le _, rfl, rfl, fun i hi => absurd hi (by omega), kept_alloc (Below.refl _ _) _, Out.empty_at (by simp) (Nat.le_refl _)⟩
            case round =>
              obtain ⟨k, x, hk0, rfl, rfl, hno, hb, hown⟩ := hrel
              by_cases hlt2 : k < j
              · have s0 := (HR1.out.kept hb).cell (i := k) (by omega)
                have s1 := (HR2.out.kept hb).cell (i := k) (by omega)
                simp only [ic] at s0 s1
                have y0 := fun dd os => cell_keep (below_regrown wr dd os) s0
                have y1 := fun dd os => cell_keep (below_regrown wr dd os) s1
                have z0 := Lib.hid (cell_keep hb Q0.out)
                have hcall := Lib.hid (HW.out k hlt2)
                have hF0 := HF0.out k
                rcases (show t < F k ∨ F k ≤ t by omega) with hcc | hcc
                · have HX := HF.out
                  rw [HON.out k hlt2 hcc, twEnd_no] at HX
                  have HX := Lib.hid HX
                  rw [if_neg (by omega)] at hcall
                  clear HF
                  go_wp2_with fail
                  refine wp_region_quiet_below (by kernel_rfl) (by kernel_rfl) ?_
                  repeat (go_big_quiet_step ((first | (go_at_call 68; exact Calls.regrown_of (hcall.out _ (cell_keep (below_regrown _ _ _) z0.out))))))
                  refine wpQuiet_nil ?_
                  intro w2 hw2
                  have hk := below_of_regrown hw2
                  clear hw2 
                  obtain ⟨hc, hf⟩ := bcell hk
                  have hz := hk.size
                  try simp at hz
                  clear y0 y1 s0 s1
                  go_wp2_with fail
                  refine bodyPost_ret (results_tmp2 rfl _ _ _) rfl ⟨_, by rw [HX.out]; rfl, kept_trans KW (kept_trans hb hk), by rw [HX.out]; exact Out.nil _ _ _ _ _⟩
                · have HN2 : Hid (∀ i, i < k + 1 → F i ≤ t) := fun i hi => by
                    by_cases e : i = k
                    · rw [e]; exact hcc
                    · exact hno.out i (by omega)
                  rw [if_pos hcc] at hcall
                  go_wp2_with fail
                  refine wp_region_quiet_below (by kernel_rfl) (by kernel_rfl) ?_
                  repeat (go_big_quiet_step ((first | (go_at_call 68; exact Calls.regrown_of (hcall.out _ (cell_keep (below_regrown _ _ _) z0.out))))))
                  refine wpQuiet_nil ?_
                  intro w2 hw2
                  have hk := below_of_regrown hw2
                  clear hw2 
                  obtain ⟨hc, hf⟩ := bcell hk
                  have hz := hk.size
                  try simp at hz
                  have hownA := hown.kept hk
                  have hbA := kept_trans hb hk
                  clear y0 y1 s0 s1 hown
                  go_wp2_with (at_builtin; refine wpList_append_own _ rfl _ _ 22 rfl _ 2 i0 _ 1 8 Try.underlying22 hi hz0 hz1 hz2 rfl (by decide) _ _ _ rfl ((hownA).row.alloc _) ⟨w2.heap.size, 0, none⟩ 1 1 _ (by rfl) (by rfl) (laid_at (by simp)) (by intro u hu; simp at hu; first | (rcases hu with rfl | rfl <;> rfl) | (subst hu; rfl)) (by simp only [maxLen]; omega) (by omega) (by have hbs := hbA.size; simp at hbs ⊢; omega) ?_; intro v1 w1 hown1 hgrow1 _)
                  have R1 : Hid (Out w1 (W.alloc (.cells #[.int .i64 t, .int .i64 r, .int .i64 s, .int .i64 p] 40)).heap.size 2 1 v1 (k + 1) (ic F)) := Out.snoc1 hown1 (by simp only [ic])
                  have R2 := below_of_append hbA hownA.row hgrow1
                  clear hownA hown1 hgrow1 hbA hb
                  try go_wp2
                  go_roundw
                  case rel => exact ⟨k + 1, _, by omega, by go_num, rfl, HN2, R2, R1.out⟩
                  case measure => simp [intOf]; omega
              · obtain rfl : k = j := by omega
                have HX := HF.out
                rw [HOY.out hno.out, twEnd_yes] at HX
                have HX := Lib.hid HX
                go_wp2
                refine bodyPost_ret (results_tmp2 rfl _ _ _) rfl ⟨_, by rw [HX.out]; rfl, kept_trans KW hb, by rw [HX.out]; exact hown.base_le KB.size⟩
      all_goals
        have HF := Lib.hid (HN.out hRR)
        clear HO hRR hr hr2 HY HN HPL HPR HPY
        go_enter Try.func36, Try.ntmps36
        go_wp2_with (first | (go_at_call 58; refine HOK.out.mono ?_; rintro e w' ⟨rfl, rfl⟩) | (go_at_call 66; refine (s_l16Three _ _ _ _).mono ?_; rintro e w' ⟨rfl, rfl⟩) | (go_at_call 67; refine (s_l04Rides _ _).mono ?_; rintro e w' ⟨rfl, rfl⟩))
        refine bodyPost_ret (results_tmp2 rfl _ _ _) rfl ⟨_, by rw [HF.out]; rfl, KB, by rw [HF.out]; exact Out.nil _ _ _ _ _⟩
    · have HF := Lib.hid (twRes_7 (a := a) (b := b) (rp := rp) (gr := gr) (nd := nd) hv hnm)
      have hnm' : ((n : Int) == m) = false := by simp; omega
      clear hr hr2 hv
      go_enter Try.func36, Try.ntmps36
      go_wp2_with (go_at_call 58; refine HOK.out.mono ?_; rintro e w' ⟨rfl, rfl⟩)
      refine bodyPost_ret (results_tmp2 rfl _ _ _) rfl ⟨_, by rw [HF.out]; rfl, KB, by rw [HF.out]; exact Out.nil _ _ _ _ _⟩

theorem l_TripWaters {W : World} (t r s p : Int) (v : Value) (n : Nat) (a : Nat → Int) (hs : Sl W v 1 n (ic a)) (_hz : ∀ i, i < n → -9223372036854775808 ≤ a i ∧ a i ≤ 9223372036854775807) (v2 : Value) (m : Nat) (b : Nat → Int) (hs2 : Sl W v2 1 m (ic b)) (_hz2 : ∀ i, i < m → -9223372036854775808 ≤ b i ∧ b i ≤ 9223372036854775807) (rp gr nd : Int) :
    Calls Try.prog 12 #[.agg #[.int .i64 t, .int .i64 r, .int .i64 s, .int .i64 p], v, v2, .int .i64 rp, .int .i64 gr, .int .i64 nd] W (Truly W) :=
  l_TripWaters_of t r s p v n a v2 m b rp gr nd hs hs2 _ _ (twRes_le hs.1) _ (fun w q q2 h h2 => s_TripWaters t r s p q n a q2 m b rp gr nd w h h2) (fun w q q2 h h2 => i_TripWaters t r s p q n a q2 m b rp gr nd w h h2)

end Go.Proofs.Ytobpeiimiglknaa
