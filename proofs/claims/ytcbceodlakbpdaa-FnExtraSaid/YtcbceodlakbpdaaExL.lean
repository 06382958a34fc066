/- The law on extra rides: the walk. -/
import Derived.Test.YtcbceodlakbpdaaExP
import Derived.Test.YtcbceodlakbpdaaAddI
import Derived.Deep.DeepCutAuto
namespace Go.Proofs.Ytcbceodlakbpdaa
open Go.RowKit Go.Deep
set_option linter.unusedVariables false
set_option maxRecDepth 100000

theorem ListAt.row {w : World} {B c n cap : Nat} {lv tk : Nat → Int} (h : ListAt w B (.slice (some ⟨c, 0, none⟩) n cap) n lv tk) : Row w c 0 (n * 2) (rc lv tk) ∧ n ≤ cap ∧ cap ≤ 9223372036854775807 := by
  refine ⟨(Row.of_own h.2).congr fun i hi => cellsN_getD hi, ?_⟩
  rcases h.2.2 with ⟨h0, h1⟩ | ⟨g, cc, cur, h0, -, -, h1, h2, -⟩
  · simp at h0
  · simp at h0
    obtain ⟨-, rfl⟩ := h0
    exact ⟨h1, h2⟩

set_option maxHeartbeats 4000000 in
theorem l_Extra {W : World} (va : Value) (na : Nat) (ha : ByS W va na) (vb : Value) (nb : Nat) (hb : ByS W vb nb) : Calls Try.prog 11 #[va, vb] W (Truly W) := by
  unfold Truly
  have HLG := Lib.hid (fun w => l_r8Long va vb na nb w)
  by_cases hl : na ≤ 1048576 ∧ nb ≤ 1048576
  · have HLN : Hid (Calls Try.prog 37 #[va, vb] W fun e W' => e = .returned (.bool false) ∧ W = W') := by
      have := l_r8Long va vb na nb W ha hb
      rw [decide_eq_true hl] at this
      exact this
    have HR := Lib.hid (s_R8Timetable va na W ha hl.1)
    have HA : Hid (∀ k m w, Below W.heap.size W w → (0 ≤ k ∧ k ≤ 1000000) → (2 ≤ m ∧ m ≤ 1000000) → Calls Try.prog 39 #[vb, .int .i64 k, .int .i64 m] w fun e W' => ∃ x : Int, e = .returned (.int .i64 x) ∧ (0 ≤ x ∧ x < m) ∧ Below w.heap.size w W') := fun k m w h h1 h2 => l_r8At vb nb k m w (hb.kept h) h1 h2
    obtain ⟨-, aoa, capa, rfl, -⟩ := ha
    obtain ⟨-, aob, capb, rfl, -⟩ := hb
    clear HLG hl
    go_enter Try.func11, Try.ntmps11
    go_upto_region 4 with (first
      | (go_at_call 37; refine HLN.out.mono ?_; rintro e w0 ⟨rfl, rfl⟩)
      | (go_at_call 38; refine HR.out.mono ?_; rintro e w1 ⟨z, n, lv, tk, a, rfl, hn, hb1, hl1, hd1⟩; obtain ⟨c, cap, rfl⟩ := hl1.1))
    go_upto_region 5 with (go_at_call 39; refine (HA.out _ _ _ hb1 (by omega) (by omega)).mono ?_; rintro e w2 ⟨u, rfl, hu, hb2⟩)
    have hB2 := kept_trans hb1 hb2
    go_upto_region 6 with (go_at_call 39; refine (HA.out _ _ _ hB2 (by omega) (by omega)).mono ?_; rintro e w3 ⟨t, rfl, ht, hb3⟩)
    have hB3 := kept_trans hB2 hb3
    go_upto_region 7 with (go_at_call 39; refine (HA.out _ _ _ hB3 (by omega) (by omega)).mono ?_; rintro e w4 ⟨f, rfl, hf, hb4⟩)
    have hB4 := kept_trans hB3 hb4
    have hL4 := hl1.kept (kept_trans (kept_trans hb2 hb3) hb4)
    clear hb2 hb3 hb4 hB2 hB3 hb1 hl1
    have ht2 : 3 ≤ 3 + t ∧ 3 + t ≤ 14 := by omega
    have hf2 : 280 ≤ 280 + f ∧ 280 + f ≤ 479 := by omega
    generalize 3 + t = T at *
    generalize 280 + f = F at *
    have hu2 : 0 ≤ u ∧ u ≤ 4 := by omega
    obtain ⟨l, g1, g2, hfl, hT1, hT0⟩ := extra_gap hd1 hn hf2 ht2 hu2
    obtain ⟨hrow, hcap⟩ := hL4.row
    have hvt := drawn_table hd1 hn
    have HG : Hid (Calls Try.prog 20 #[.slice (some ⟨c, 0, none⟩) n cap, .int .i64 F, .int .i64 T, .int .i64 u] w4 fun e W' => e = .returned (.tuple #[.int .i64 l, .int .i64 0]) ∧ Below w4.heap.size w4 W') := by
      have := i_FirstGap (.slice (some ⟨c, 0, none⟩) n cap) n lv tk F T u w4 (Sl.of_row (by omega) hrow)
      rw [g1, g2] at this
      exact this
    have hadd := add_yes hvt hn (l := l) (by omega) ht2 hu2 hT1
    have HI : Hid (∀ w, Below w4.heap.size w4 w → Calls Try.prog 35 #[.slice (some ⟨c, 0, none⟩) n cap, .agg #[.int .i64 l, .int .i64 T], .int .i64 u] w fun e W' => ∃ g cp, e = .returned (.tuple #[.slice (some ⟨g, 0, none⟩) (n + 1) cp, .int .i64 0]) ∧ Below w.heap.size w W' ∧ Row W' g 0 ((n + 1) * 2) (rc (insF (insK n lv l) l lv) (insF (insK n lv l) T tk))) := fun w hw => by
      refine (i_AddRide c n cap lv tk l T u w (by omega) hcap (hrow.kept hw)).mono ?_
      rintro e w' ⟨v, rfl, hb, ho⟩
      rw [hadd.2] at ho
      obtain ⟨g, cp, rfl, -, hr⟩ := ho.opened (by omega)
      exact ⟨g, cp, by rw [hadd.1], hb, hr.congr fun i _ => by unfold addF; rfl⟩
    have HSA : Hid (∀ m w, F ≤ m → m < l → Below w4.heap.size w4 w → Calls Try.prog 33 #[.slice (some ⟨c, 0, none⟩) n cap, .agg #[.int .i64 m, .int .i64 T], .int .i64 u] w fun e W' => ∃ v, e = .returned (.tuple #[v, .int .i64 6]) ∧ Below w.heap.size w W') := fun m w h1 h2 hw => by
      refine (s_AddRide c n cap lv tk m T u w (by omega) hcap (hrow.kept hw)).mono ?_
      rintro e w' ⟨v, rfl, hb, -⟩
      rw [add_no hvt (by omega) ht2 hu2 (hT0 m h1 h2)]
      exact ⟨v, rfl, hb⟩
    have hnv := extra_valid hd1 hn (l := l) (by omega) ht2 hu2 hT1
    have HV : Hid (∀ w g cp, Row w g 0 ((n + 1) * 2) (rc (insF (insK n lv l) l lv) (insF (insK n lv l) T tk)) → Calls Try.prog 40 #[.slice (some ⟨g, 0, none⟩) (n + 1) cp] w fun e W' => e = .returned (.bool true) ∧ Below w.heap.size w W') := fun w g cp hr => by
      have := s_ValidTimetable (.slice (some ⟨g, 0, none⟩) (n + 1) cp) (n + 1) _ _ w (Sl.of_row (by omega) hr)
      rw [hnv] at this
      exact this
    have HSL : Hid (∀ w g cp, Row w g 0 ((n + 1) * 2) (rc (insF (insK n lv l) l lv) (insF (insK n lv l) T tk)) → Calls Try.prog 21 #[.slice (some ⟨g, 0, none⟩) (n + 1) cp, .int .i64 u] w fun e W' => ∃ (ao : Option Addr) (cp2 : Nat), e = .returned (.tuple #[.slice ao n cp2, .int .i64 0]) ∧ Below w.heap.size w W' ∧ (n ≤ 0 ∨ ∃ h, ao = some ⟨h, 0, none⟩ ∧ ∀ i, i < n → W'.cell? ⟨h, i, none⟩ = some (.int .i64 (slackZ (insF (insK n lv l) l lv) (insF (insK n lv l) T tk) u i)))) := fun w g cp hr => by
      refine (s_SlackOf (.slice (some ⟨g, 0, none⟩) (n + 1) cp) (n + 1) _ _ u w (Sl.of_row (by omega) hr)).mono ?_
      rintro e w' ⟨v, rfl, hb, ho⟩
      rw [slack_ok hnv hu2] at ho ⊢
      simp only [Nat.add_sub_cancel] at ho
      by_cases h0 : n ≤ 0
      · rcases ho.2 with ⟨h1, h2⟩ | ⟨gg, cc, cur, h1, h2⟩
        · obtain rfl : n = 0 := by omega
          exact ⟨_, _, by rw [h1], hb, .inl h0⟩
        · exact ⟨_, _, by rw [h1], hb, .inl h0⟩
      · obtain ⟨h, cp2, rfl, -, hr2⟩ := ho.opened (by omega)
        exact ⟨_, cp2, rfl, hb, .inr ⟨h, rfl, fun i hi => by have := hr2.cell (i := i) (by omega); rw [Nat.zero_add] at this; exact this⟩⟩
    have HSK := Lib.hid (extra_slack hd1 hn (l := l) (by omega) ht2 hu2 hT1)
    clear hnv hadd hvt g1 g2 hT0 hT1 hd1 hrow hL4 HLN HR
    generalize insF (insK n lv l) l lv = p at *
    generalize insF (insK n lv l) T tk = q at *
    generalize slackZ p q u = sl at *
    obtain ⟨N, hN1, hN2, hN⟩ : ∃ N : Nat, N ≤ n + 1 ∧ n + 1 ≤ N ∧ n + 1 = N := ⟨n + 1, by omega, by omega, rfl⟩
    rw [hN] at HI HV HSL HSK
    clear hN
    go_upto_region 14 with (first
      | (go_at_call 20; refine HG.out.mono ?_; rintro e w5 ⟨rfl, hb5⟩)
      | (go_at_call 35; refine (HI.out _ hb5).mono ?_; rintro e w6 ⟨g, cp, rfl, hb6, hr6⟩)
      | (go_at_call 40; refine (HV.out _ _ _ hr6).mono ?_; rintro e w7 ⟨rfl, hb7⟩; have hr7 := hr6.kept hb7)
      | (go_at_call 21; refine (HSL.out _ _ _ hr7).mono ?_; rintro e w8 ⟨ao, cp2, rfl, hb8, hs8⟩; have hr8 := hr7.kept hb8))
    have hB8 : Below w4.heap.size w4 w8 := kept_trans (kept_trans (kept_trans hb5 hb6) hb7) hb8
    clear hb5 hb6 hb7 hb8 hr6 hr7 HG HI HV HSL
    go_wp2
    go_loopw [15] (fun i wr => ∃ k : Nat, k ≤ N ∧ i = .int .i64 k ∧ Below w8.heap.size w8 wr) (fun i _ => N - (intOf i).toNat)
    case atStart => exact ⟨0, by omega, rfl, Below.refl _ _⟩
    case round =>
      obtain ⟨k, hk, rfl, hbk⟩ := hrel
      by_cases hlt : k < N
      · obtain ⟨x0, x1⟩ := rcells (hr8.kept hbk) hlt
        rw [Nat.zero_add] at x0 x1
        by_cases e1 : p k = l
        · obtain ⟨d1, d2⟩ := HSK.out k (by omega) e1
          have e1a : p k ≤ l := by omega
          have e1b : l ≤ p k := by omega
          clear e1
          generalize p k = pk at *
          generalize q k = qk at *
          by_cases e2 : qk = T
          · have e2a : qk ≤ T := by omega
            have e2b : T ≤ qk := by omega
            clear e2
            rcases hs8 with h0 | ⟨h, rfl, hs8⟩
            · have hk0 : k ≤ 0 := by omega
              have hkn : n ≤ k := by omega
              go_wp2
              go_roundw
              case rel => exact ⟨k + 1, by omega, by go_num, hbk⟩
              case measure => simp [intOf]; omega
            · by_cases hk0 : 0 < k
              · have y0 := cell_keep hbk (hs8 (k - 1) (by omega))
                have d1 := d1 hk0
                by_cases hkn : k < n
                · have y1 := cell_keep hbk (hs8 k hkn)
                  have d2 := d2 hkn
                  generalize sl (k - 1) = s0 at *
                  generalize sl k = s1 at *
                  clear hs8
                  go_wp2
                  go_roundw
                  case rel => exact ⟨k + 1, by omega, by go_num, hbk⟩
                  case measure => simp [intOf]; omega
                · generalize sl (k - 1) = s0 at *
                  clear hs8 d2
                  go_wp2
                  go_roundw
                  case rel => exact ⟨k + 1, by omega, by go_num, hbk⟩
                  case measure => simp [intOf]; omega
              · by_cases hkn : k < n
                · have y1 := cell_keep hbk (hs8 k hkn)
                  have d2 := d2 hkn
                  generalize sl k = s1 at *
                  clear hs8 d1
                  go_wp2
                  go_roundw
                  case rel => exact ⟨k + 1, by omega, by go_num, hbk⟩
                  case measure => simp [intOf]; omega
                · clear hs8 d1 d2
                  go_wp2
                  go_roundw
                  case rel => exact ⟨k + 1, by omega, by go_num, hbk⟩
                  case measure => simp [intOf]; omega
          · go_wp2
            go_roundw
            case rel => exact ⟨k + 1, by omega, by go_num, hbk⟩
            case measure => simp [intOf]; omega
        · generalize p k = pk at *
          generalize q k = qk at *
          go_wp2
          go_roundw
          case rel => exact ⟨k + 1, by omega, by go_num, hbk⟩
          case measure => simp [intOf]; omega
      · have hB9 := kept_trans hB8 hbk
        have hB9W := kept_trans hB4 hB9
        clear hs8 hr8 hbk hB8 HSK
        go_wp2
        clear hk hlt
        go_loopw [16, 17, 18] (fun m x y wr2 => ∃ j : Nat, F + j ≤ l ∧ m = .int .i64 (F + j) ∧ Below w4.heap.size w4 wr2) (fun m _ _ _ => (l - intOf m).toNat)
        case atStart => exact ⟨0, by omega, by simp, hB9⟩
        case round =>
          obtain ⟨j, hj, rfl, hbj⟩ := hrel
          by_cases hlt2 : F + j < l
          · have HC := Lib.hid (HSA.out (F + j) wr (by omega) hlt2 hbj)
            go_wp2_with (go_at_call 33; refine HC.out.mono ?_; rintro e wq ⟨v, rfl, hbq⟩)
            go_roundw
            case rel => exact ⟨j + 1, by omega, by go_num, kept_trans hbj hbq⟩
            case measure => simp [intOf]; omega
          · clear HSA
            have hB10 := kept_trans hB4 hbj
            have hHA := Lib.hid (fun k m w (h : Below wr.heap.size wr w) h1 h2 => HA.out k m w (kept_trans hB10 h) h1 h2)
            clear HA
            go_upto_region 27 with (go_at_call 39; refine (hHA.out _ _ _ (Below.refl _ _) (by omega) (by omega)).mono ?_; rintro e wA ⟨x3, rfl, hx3, hbA⟩)
            go_upto_region 28 with (go_at_call 39; refine (hHA.out _ _ _ hbA (by omega) (by omega)).mono ?_; rintro e wC ⟨x4, rfl, hx4, hbC⟩)
            have hev : T ≤ T + x3 ∧ T + x3 ≤ T + 19 := by omega
            have hun : F ≤ F + x4 ∧ F + x4 ≤ F + 199 := by omega
            generalize T + x3 = E at *
            generalize F + x4 = U at *
            have hB11 : Below W.heap.size W wC := kept_trans hB10 (kept_trans hbA hbC)
            clear hbA hbC hHA hbj hB9 hB9W hB4
            rcases even_ok hf2 hun ht2 hev with ⟨ee, hful⟩ | ⟨C, ee, hC, hin, hend⟩
            · have HE : Hid (Calls Try.prog 41 #[.int .i64 F, .int .i64 U, .int .i64 E, .int .i64 T] wC fun e W' => ∃ (ao : Option Addr) (n cap : Nat), e = .returned (.tuple #[.slice ao n cap, .int .i64 5]) ∧ Below wC.heap.size wC W') := by
                refine (i_EvenRides F U E T wC).mono ?_
                rintro e w' ⟨v, rfl, hb, ho⟩
                rw [ee] at ho ⊢
                rcases ho.2 with ⟨h1, h2⟩ | ⟨gg, cc, cur, h1, h2⟩
                · exact ⟨_, _, _, by rw [h1], hb⟩
                · exact ⟨_, _, _, by rw [h1], hb⟩
              clear ee
              go_wp2_with (go_at_call 41; refine HE.out.mono ?_; rintro e wE ⟨aoE, nE, capE, rfl, hbE⟩)
              go_ret
              exact ⟨rfl, kept_trans hB11 hbE⟩
            · have hv := even_valid hf2 hun ht2 hev hC hin
              have HE : Hid (Calls Try.prog 41 #[.int .i64 F, .int .i64 U, .int .i64 E, .int .i64 T] wC fun e W' => ∃ (ao : Option Addr) (cap : Nat), e = .returned (.tuple #[.slice ao C cap, .int .i64 0]) ∧ Below wC.heap.size wC W' ∧ Sl W' (.slice ao C cap) 2 C (rc (fun k => F + k * E) (fun _ => T))) := by
                refine (i_EvenRides F U E T wC).mono ?_
                rintro e w' ⟨v, rfl, hb, ho⟩
                rw [ee] at ho ⊢
                have hs := ho.sl (by omega)
                unfold evenF at hs
                have hs2 := hs
                obtain ⟨-, ao, cap, rfl, -⟩ := hs2
                exact ⟨ao, cap, rfl, hb, hs⟩
              have HV2 : Hid (∀ w v, Sl w v 2 C (rc (fun k => F + k * E) (fun _ => T)) → Calls Try.prog 40 #[v] w fun e W' => e = .returned (.bool true) ∧ Below w.heap.size w W') := fun w v h => by
                have := s_ValidTimetable v C _ _ w h
                rw [hv] at this
                exact this
              have HIN : Hid (∀ i : Nat, i < C → 0 ≤ (i : Int) * E ∧ F + i * E + T ≤ U) := fun i hi => ⟨Int.mul_nonneg (by omega) (by omega), hin i hi⟩
              have hend0 : 0 ≤ (C : Int) * E ∧ (C : Int) * E ≤ 24 * 33 := ⟨Int.mul_nonneg (by omega) (by omega), Int.mul_le_mul (by omega) (by omega) (by omega) (by omega)⟩
              clear ee hv hin
              go_wp2_with (first
                | (go_at_call 41; refine HE.out.mono ?_; rintro e wE ⟨aoE, capE, rfl, hbE, hsE⟩)
                | (go_at_call 40; refine (HV2.out _ _ hsE).mono ?_; rintro e wF ⟨rfl, hbF⟩; have hsF := hsE.kept hbF))
              have hB12 := kept_trans hB11 (kept_trans hbE hbF)
              obtain ⟨-, ao9, cap9, hv9, hr9⟩ := hsF
              obtain ⟨rfl, -, rfl⟩ : aoE = ao9 ∧ C = C ∧ capE = cap9 := by simpa using hv9
              clear HE HV2 hbE hbF hsE hB11 hv9
              go_loopw [23] (fun i wr3 => ∃ k : Nat, k ≤ C ∧ i = .int .i64 k ∧ Below wF.heap.size wF wr3) (fun i _ => C - (intOf i).toNat)
              case atStart => exact ⟨0, by omega, rfl, Below.refl _ _⟩
              case round =>
                obtain ⟨k, hk, rfl, hbk⟩ := hrel
                by_cases hlt : k < C
                · rcases hr9 with h0 | ⟨h, o, rfl, hr9⟩
                  · omega
                  obtain ⟨x0, x1⟩ := rcells (hr9.kept hbk) hlt
                  obtain ⟨m0, m1⟩ := HIN.out k hlt
                  clear hr9
                  go_wp2
                  go_roundw
                  case rel => exact ⟨k + 1, by omega, by go_num, hbk⟩
                  case measure => simp [intOf]; omega
                · obtain rfl : k = C := by omega
                  clear hr9
                  go_wp2
                  go_ret
                  exact ⟨rfl, kept_trans hB12 hbk⟩
  · have HLY : Hid (Calls Try.prog 37 #[va, vb] W fun e W' => e = .returned (.bool true) ∧ W = W') := by
      have := l_r8Long va vb na nb W ha hb
      rw [decide_eq_false hl] at this
      exact this
    obtain ⟨-, aoa, capa, rfl, -⟩ := ha
    obtain ⟨-, aob, capb, rfl, -⟩ := hb
    clear HLG hl
    go_enter Try.func11, Try.ntmps11
    go_wp2_with (go_at_call 37; refine HLY.out.mono ?_; rintro e w0 ⟨rfl, rfl⟩)
    go_ret
    exact ⟨rfl, Below.refl _ _⟩

end Go.Proofs.Ytcbceodlakbpdaa
