/- The tickets that have expired: the program, the law. -/
import Derived.Test.YtdecdlaopoglbaaExpired
namespace Go.Proofs.Ytdecdlaopoglbaa
open Go.RowKit Go.Deep
set_option linter.unusedVariables false
set_option maxRecDepth 100000

set_option maxHeartbeats 3200000 in
theorem i_ExpiredOf (v : Value) (n : Nat) (a : Nat → ByteArray) (b c d : Nat → Int) (v2 : Value) (m : Nat) (t : Nat → ByteArray) (bo us : Nat → Int) (day : Int) (W : World) (hs : Sl W v 4 n (gc a b c d)) (hx : Hid (∀ i, i < n → ((a i).size : Int) ≤ 1048576)) (hs2 : Sl W v2 3 m (kc t bo us)) (hx2 : Hid (∀ i, i < m → ((t i).size : Int) ≤ 1048576)) (hm1 : (m : Int) ≤ 1048576) :
    Calls Try.prog 24 #[v, v2, .int .i64 day] W (ExPost n a b c d m t bo us day W) := by
  obtain ⟨i0, hi, hz0, hz1, hz2⟩ := info_parts infoInt
  have HAL := Lib.hid (i_soldOf v n a b c d v2 m t bo us (inB day 0 36524) W hs hx hs2 hx2 hm1)
  have HFO := Lib.hid (fun (id : ByteArray) (k : Nat) (h : fidx n a id = (k : Nat)) w hs => i_fareOf_yes (b := b) (c := c) (d := d) h v w hs)
  have HSA := hs
  obtain ⟨hn, ao, cap, rfl, hr⟩ := hs
  obtain ⟨hm, ao2, cap2, rfl, hr2⟩ := hs2
  clear hr
  unfold ExPost
  have HIN := fun h => inc_facts (n := n) (a := a) (b := b) (c := c) (d := d) (m := m) (t := t) (bo := bo) (us := us) (ok := inB day 0 36524) h
  have NO := Lib.hid (fun x hx h => exL_no (n := n) (a := a) (b := b) (c := c) (d := d) (m := m) (t := t) (bo := bo) (us := us) (day := day) (x := x) hx h)
  have HSD := Lib.hid (fun w => i_isDay day w)
  rcases (fcode_vals n a b c d (inB day 0 36524 && soldB m t bo us) m t) with h | h | h | h
  case inr.inr.inr =>
    obtain ⟨hok, hn8, hm100, HK, HBO⟩ := HIN h
    rw [exC_eq] at h
    rw [exC_eq] at HAL
    rw [exL_yes h, h]
    rw [h, hok] at HAL
    have hday := inB_out hok
    have EX := Lib.hid (fun k q hq => exB_cases (n := n) (a := a) (c := c) (d := d) (t := t) (bo := bo) (us := us) (day := day) (k := k) (q := q) hq)
    rw [hok] at HSD
    clear h NO HIN hok
    generalize exB n a c d t bo us day = p at *
    go_enter Try.func24, Try.ntmps24
    go_wp2_with (first | (go_at_call 35; refine (HSD.out _).mono ?_; rintro e w' ⟨rfl, rfl⟩) | (go_at_call 34; refine HAL.out.mono ?_; rintro e w1 ⟨rfl, hb1⟩))
    have hs1 := hb1.size
    go_loopw [9, 24] (fun o i wr => ∃ (k : Nat) (x : Value) (L : List Int), k ≤ m ∧ i = .int .i64 k ∧ x = o ∧ Below W.heap.size W wr ∧ L.length ≤ k ∧ Hid (picks p k = L) ∧ Out wr W.heap.size 2 1 x L.length (ic (lz L))) (fun _ i _ => m - (intOf i).toNat)
    case atStart => exact ⟨0, _, [], by omega, rfl, rfl, hb1, Nat.le_refl _, picks_zero _, Out.nil _ _ _ _ _⟩
    case round =>
      clear hb1 HAL HSD hs1
      obtain ⟨k, x, L, hk, rfl, rfl, hb, hL, HL, hown⟩ := hrel
      by_cases hlt : k < m
      · rcases hr2 with h0 | ⟨g2, off2, rfl, hr2⟩
        · omega
        obtain ⟨t0, t1, t2⟩ := kccells (hr2.kept hb) hlt
        obtain ⟨q, hq, hfx, -, -, -⟩ := HK.out k hlt
        obtain ⟨hbo, hus⟩ := HBO.out k hlt
        have KX := kept_alloc (Below.refl wr.heap.size wr) (.cells #[.string (t k), .int .i64 (bo k), .int .i64 (us k)] 58)
        have HT := Lib.hid (HFO.out (t k) q hfx _ ((HSA.kept hb).kept KX))
        have TB0 : (wr.alloc (.cells #[.string (t k), .int .i64 (bo k), .int .i64 (us k)] 58)).cell? ⟨wr.heap.size, 0, none⟩ = some (.string (t k)) := boxed_at rfl rfl
        have TB1 : (wr.alloc (.cells #[.string (t k), .int .i64 (bo k), .int .i64 (us k)] 58)).cell? ⟨wr.heap.size, 1, none⟩ = some (.int .i64 (bo k)) := boxed_at rfl rfl
        have TB2 : (wr.alloc (.cells #[.string (t k), .int .i64 (bo k), .int .i64 (us k)] 58)).cell? ⟨wr.heap.size, 2, none⟩ = some (.int .i64 (us k)) := boxed_at rfl rfl
        have HGD := Lib.hid (fun w => i_isGood (a q) (t k) (b q) (c q) (d q) (bo k) (us k) day w hbo hday)
        have HX := EX.out k q hfx
        have hownA := hown.kept KX
        have hbA := kept_trans hb KX
        clear hr2 hfx hown hb
        rcases HX with ⟨x1, x2, HV⟩ | ⟨x1, x2, HV⟩ | ⟨x1, x2, HV⟩ | ⟨x1, x2, x3, HV⟩ | ⟨x1, x2, x3, HV⟩
        · have HN : Hid (picks p (k + 1) = L) := by show picks _ _ = _; rw [picks_no HV.out, HL.out]
          go_wp2_with (go_at_call 37; refine HT.out.mono ?_; rintro e w3 ⟨rfl, hbx1⟩; have s0 := cell_keep hbx1 TB0; have s1 := cell_keep hbx1 TB1; have s2 := cell_keep hbx1 TB2; have hy1 := hbx1.size; simp at hy1; have hy2 := Nat.lt_of_succ_le hy1; have KF := kept_alloc (Below.refl w3.heap.size w3) (.cells #[.string (a q), .int .i64 (b q), .int .i64 (c q), .int .i64 (d q)] 59); have hownF := (hownA.kept hbx1).kept KF; have hbF := kept_trans (kept_trans hbA hbx1) KF)
          go_roundw
          case rel => exact ⟨k + 1, _, L, by omega, by go_num, rfl, hbF, by omega, HN, hownF⟩
          case measure => simp [intOf]; omega
        · have HN : Hid (picks p (k + 1) = L) := by show picks _ _ = _; rw [picks_no HV.out, HL.out]
          go_wp2_with (go_at_call 37; refine HT.out.mono ?_; rintro e w3 ⟨rfl, hbx1⟩; have s0 := cell_keep hbx1 TB0; have s1 := cell_keep hbx1 TB1; have s2 := cell_keep hbx1 TB2; have hy1 := hbx1.size; simp at hy1; have hy2 := Nat.lt_of_succ_le hy1; have KF := kept_alloc (Below.refl w3.heap.size w3) (.cells #[.string (a q), .int .i64 (b q), .int .i64 (c q), .int .i64 (d q)] 59); have hownF := (hownA.kept hbx1).kept KF; have hbF := kept_trans (kept_trans hbA hbx1) KF)
          go_roundw
          case rel => exact ⟨k + 1, _, L, by omega, by go_num, rfl, hbF, by omega, HN, hownF⟩
          case measure => simp [intOf]; omega
        · have HN : Hid (picks p (k + 1) = L) := by show picks _ _ = _; rw [picks_no HV.out, HL.out]
          go_wp2_with (go_at_call 37; refine HT.out.mono ?_; rintro e w3 ⟨rfl, hbx1⟩; have s0 := cell_keep hbx1 TB0; have s1 := cell_keep hbx1 TB1; have s2 := cell_keep hbx1 TB2; have hy1 := hbx1.size; simp at hy1; have hy2 := Nat.lt_of_succ_le hy1; have KF := kept_alloc (Below.refl w3.heap.size w3) (.cells #[.string (a q), .int .i64 (b q), .int .i64 (c q), .int .i64 (d q)] 59); have hownF := (hownA.kept hbx1).kept KF; have hbF := kept_trans (kept_trans hbA hbx1) KF)
          go_roundw
          case rel => exact ⟨k + 1, _, L, by omega, by go_num, rfl, hbF, by omega, HN, hownF⟩
          case measure => simp [intOf]; omega
        · have HN : Hid (picks p (k + 1) = L) := by show picks _ _ = _; rw [picks_no HV.out, HL.out]
          rw [x3] at HGD
          clear x3
          go_wp2_with (first | (go_at_call 48; refine (HGD.out _).mono ?_; rintro e w4 ⟨rfl, hbx2⟩; have hownG := hownF.kept hbx2; have hbG := kept_trans hbF hbx2) | (go_at_call 37; refine HT.out.mono ?_; rintro e w3 ⟨rfl, hbx1⟩; have s0 := cell_keep hbx1 TB0; have s1 := cell_keep hbx1 TB1; have s2 := cell_keep hbx1 TB2; have hy1 := hbx1.size; simp at hy1; have hy2 := Nat.lt_of_succ_le hy1; have KF := kept_alloc (Below.refl w3.heap.size w3) (.cells #[.string (a q), .int .i64 (b q), .int .i64 (c q), .int .i64 (d q)] 59); have hownF := (hownA.kept hbx1).kept KF; have hbF := kept_trans (kept_trans hbA hbx1) KF))
          go_roundw
          case rel => exact ⟨k + 1, _, L, by omega, by go_num, rfl, hbG, by omega, HN, hownG⟩
          case measure => simp [intOf]; omega
        · have HN : Hid (picks p (k + 1) = L ++ [(k : Int)]) := by show picks _ _ = _; rw [picks_yes HV.out, HL.out]
          rw [x3] at HGD
          clear x3
          go_wp2_with (first | (at_builtin; refine wpList_append_own _ rfl _ _ 35 rfl _ 2 i0 _ 1 8 Try.underlying35 hi hz0 hz1 hz2 rfl (by decide) _ _ _ rfl ((hownG).row.alloc _) ⟨w4.heap.size, 0, none⟩ 1 1 _ (by rfl) (by rfl) (laid_at (by simp)) (by intro u hu; simp at hu; first | (rcases hu with rfl | rfl <;> rfl) | (subst hu; rfl)) (by simp only [maxLen]; omega) (by omega) (by have hbs := hbG.size; simp at hbs ⊢; omega) ?_; intro v1 w1 hown1 hgrow1 _) | (go_at_call 48; refine (HGD.out _).mono ?_; rintro e w4 ⟨rfl, hbx2⟩; have hownG := hownF.kept hbx2; have hbG := kept_trans hbF hbx2) | (go_at_call 37; refine HT.out.mono ?_; rintro e w3 ⟨rfl, hbx1⟩; have s0 := cell_keep hbx1 TB0; have s1 := cell_keep hbx1 TB1; have s2 := cell_keep hbx1 TB2; have hy1 := hbx1.size; simp at hy1; have hy2 := Nat.lt_of_succ_le hy1; have KF := kept_alloc (Below.refl w3.heap.size w3) (.cells #[.string (a q), .int .i64 (b q), .int .i64 (c q), .int .i64 (d q)] 59); have hownF := (hownA.kept hbx1).kept KF; have hbF := kept_trans (kept_trans hbA hbx1) KF))
          have R1 := Lib.hid (Out.snocL hown1)
          have R2 := below_of_append hbG hownG.row hgrow1
          clear hownA hownF hownG hown1 hgrow1
          try go_wp2
          go_roundw
          case rel => exact ⟨k + 1, _, L ++ [(k : Int)], by omega, by go_num, rfl, R2, by simp; omega, HN, R1.out⟩
          case measure => simp [intOf]; omega
      · obtain rfl : k = m := by omega
        clear hr2
        go_wp2
        refine bodyPost_ret (results_tmp2 rfl _ _ _) rfl ⟨_, rfl, hb, by rw [HL.out]; exact hown⟩
  all_goals
    rw [exC_eq] at h
    rw [exC_eq] at HAL
    rw [NO.out _ h (by omega), h]
    rw [h] at HAL
    generalize inB day 0 36524 = ok at *
    clear h NO HIN hr2
    go_enter Try.func24, Try.ntmps24
    go_wp2_with (first | (go_at_call 35; refine (HSD.out _).mono ?_; rintro e w' ⟨rfl, rfl⟩) | (go_at_call 34; refine HAL.out.mono ?_; rintro e w1 ⟨rfl, hb1⟩))
    refine bodyPost_ret (results_tmp2 rfl _ _ _) rfl ⟨_, rfl, hb1, Out.nil _ _ _ _ _⟩

theorem l_ExpiredOf {W : World} (v : Value) (n : Nat) (a : Nat → ByteArray) (b c d : Nat → Int) (hs : Sl W v 4 n (gc a b c d)) (hx : Hid (∀ i, i < n → ((a i).size : Int) ≤ 9223372036854775807)) (v2 : Value) (m : Nat) (t : Nat → ByteArray) (bo us : Nat → Int) (hs2 : Sl W v2 3 m (kc t bo us)) (hx2 : Hid (∀ i, i < m → ((t i).size : Int) ≤ 9223372036854775807)) (day : Int) : Calls Try.prog 5 #[v, v2, .int .i64 day] W (Truly W) :=
  l_ExpiredOf_of v n a b c d v2 m t bo us day hs hx hs2 hx2 _ _ (exL_len hs2.1) _ (fun w u0 u1 h h2 hb hb2 _ => s_ExpiredOf u0 n a b c d u1 m t bo us day w h hb h2 hb2) (fun w u0 u1 h h2 hb hb2 ln => i_ExpiredOf u0 n a b c d u1 m t bo us day w h hb h2 hb2 ln)

end Go.Proofs.Ytdecdlaopoglbaa
