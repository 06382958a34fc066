/- The law on timetables: the walk. -/
import Derived.Test.YteieiceknnnphaaDoorTtP
import Derived.Test.YteieiceknnnphaaDoorTtH
import Derived.Test.YteieiceknnnphaaDoorRdL
import Derived.Deep.DeepCutAuto
import Derived.Deep.QuietTactic
import Derived.BigQuiet
namespace Go.Proofs.YteieiceknnnphaaDoor
open Go.RowKit Go.Deep
set_option linter.unusedVariables false
set_option maxRecDepth 100000

theorem ListAt.row {w : World} {B c n cap : Nat} {lv tk : Nat → Int} (h : ListAt w B (.slice (some ⟨c, 0, none⟩) n cap) n lv tk) : Row w c 0 (n * 2) (rc lv tk) ∧ n ≤ cap ∧ cap ≤ 9223372036854775807 := by
  refine ⟨(Row.of_own h.2).congr fun i hi => cellsN_getD hi, ?_⟩
  rcases h.2.2 with ⟨h0, h1⟩ | ⟨g, cc, cur, h0, -, -, h1, h2, -⟩
  · simp at h0
  · simp at h0
    obtain ⟨-, rfl⟩ := h0
    exact ⟨h1, h2⟩
/-- A ride's text read back. -/
theorem ride_back {l t : Int} (h : vRide l t = true) : rdI (rideS l t).data.toList = (l, t, true) := by
  rw [rd_eq]
  have ho := vRide_out h
  have n1 := num_dec l.toNat (by omega)
  have n2 := num_dec t.toNat (by omega)
  have e : spl 43 [] (rideS l t).data.toList = [Lib.decDigits l.toNat, Lib.decDigits t.toNat] := by
    rw [ride_list h]
    show spl 43 [] (Lib.decDigits l.toNat ++ 43 :: Lib.decDigits t.toNat) = _
    rw [spl_first _ _ _ dig_ne, spl_plain _ _ dig_ne]
    rfl
  have e2 : twoL (spl 43 [] (rideS l t).data.toList) = (l, t, true) := by
    rw [e, twoL_yes, n1.1, n1.2, n2.1, n2.2, show ((l.toNat : Nat) : Int) = l by omega, show ((t.toNat : Nat) : Int) = t by omega]
    rfl
  unfold rdS
  rw [e2, if_pos ⟨rfl, h⟩]

set_option maxHeartbeats 80000000 in
theorem l_Timetable {W : World} (va : Value) (na : Nat) (ha : ByS W va na) (vb : Value) (nb : Nat) (hb : ByS W vb nb) (htab : TabE W) : Calls Tryd.prog 3 #[va, vb] W (Truly W) := by
  unfold Truly
  by_cases hl : na ≤ 1048576 ∧ nb ≤ 1048576
  · have HLN : Hid (Calls Tryd.prog 4 #[va, vb] W fun e W' => e = .returned (.bool false) ∧ W = W') := by
      have := l_r8Long va vb na nb W ha hb
      rw [decide_eq_true hl] at this
      exact this
    have HR := Lib.hid (s_R8Timetable va na W ha hl.1)
    have HA : Hid (∀ k m w, Below W.heap.size W w → (0 ≤ k ∧ k ≤ 1000000) → (1 ≤ m ∧ m ≤ 1000000) → Calls Tryd.prog 6 #[vb, .int .i64 k, .int .i64 m] w fun e W' => ∃ x : Int, e = .returned (.int .i64 x) ∧ (0 ≤ x ∧ x < m) ∧ Below w.heap.size w W') := fun k m w h h1 h2 => l_r8At vb nb k m w (hb.kept h) h1 h2
    have HT10 : Hid (∀ w, Below W.heap.size W w → Tab10 w ∧ ErrS w) := fun w h => ⟨htab.1.kept h, htab.2.kept h⟩
    obtain ⟨-, aoa, capa, rfl, -⟩ := ha
    obtain ⟨-, aob, capb, rfl, -⟩ := hb
    clear hl htab
    go_enter Tryd.func3, Tryd.ntmps3
    go_upto_region 4 with (first
      | (go_at_call 4; refine HLN.out.mono ?_; rintro e w0 ⟨rfl, rfl⟩)
      | (go_at_call 5; refine HR.out.mono ?_; rintro e w1 ⟨z, n, lv, tk, a, rfl, hn, hb1, hl1, hd1⟩; obtain ⟨c, cap, rfl⟩ := hl1.1))
    go_upto_region 5 with (go_at_call 6; refine (HA.out _ _ _ hb1 (by omega) (by omega)).mono ?_; rintro e w4 ⟨u, rfl, hu, hb2⟩)
    have hB4 := kept_trans hb1 hb2
    have hL4 := hl1.kept hb2
    clear hb2 hb1 hl1 HLN HR
    have hu2 : 0 ≤ u ∧ u ≤ 4 := by omega
    obtain ⟨hrow, -⟩ := hL4.row
    have hvt := drawn_table hd1 hn
    obtain ⟨m, hm1, hm2, hm3⟩ : ∃ m : Nat, n - 1 = m ∧ (n = 0 → m = 0) ∧ (1 ≤ n → m + 1 = n) := ⟨n - 1, rfl, by omega, by omega⟩
    have HROW := Lib.hid hrow
    have HS : Hid (∀ w, Below w4.heap.size w4 w → Sl w (.slice (some ⟨c, 0, none⟩) n cap) 2 n (rc lv tk)) := fun w h => Sl.of_row (by omega) (hrow.kept h)
    have HSL : Hid (Calls Tryd.prog 7 #[.slice (some ⟨c, 0, none⟩) n cap, .int .i64 u] w4 fun e W' => ∃ (ao : Option Addr) (cp : Nat), e = .returned (.tuple #[.slice ao m cp, .int .i64 0]) ∧ Below w4.heap.size w4 W' ∧ (m ≤ 0 ∨ ∃ h, ao = some ⟨h, 0, none⟩ ∧ ∀ i, i < m → W'.cell? ⟨h, i, none⟩ = some (.int .i64 (lv (i + 1) - lv i - tk i - u)))) := by
      refine (i_SlackOf _ n lv tk u w4 (HS.out _ (Below.refl _ _))).mono ?_
      rintro e w' ⟨v, rfl, hb, ho⟩
      rw [slack_ok2 hvt hu2] at ho ⊢
      simp only [hm1] at ho
      by_cases h0 : m ≤ 0
      · rcases ho.2 with ⟨h1, h2⟩ | ⟨gg, cc, cur, h1, h2⟩
        · obtain rfl : m = 0 := by omega
          exact ⟨_, _, by rw [h1], hb, .inl h0⟩
        · exact ⟨_, _, by rw [h1], hb, .inl h0⟩
      · obtain ⟨h, cp2, rfl, -, hr2⟩ := ho.opened (by omega)
        refine ⟨_, cp2, rfl, hb, .inr ⟨h, rfl, fun i hi => ?_⟩⟩
        have := hr2.cell (i := i) (by omega)
        rw [Nat.zero_add] at this
        rw [this]
        unfold slackZ
        simp only [ic]
        congr 2
        omega
    have HV : Hid (∀ w, Below w4.heap.size w4 w → Calls Tryd.prog 8 #[.slice (some ⟨c, 0, none⟩) n cap] w fun e W' => e = .returned (.bool true) ∧ Below w.heap.size w W') := fun w h => by
      have := i_ValidTimetable _ n lv tk w (HS.out w h)
      rw [hvt] at this
      exact this
    have hm4 : m ≤ n ∧ n ≤ m + 1 := by omega
    have hm5 : (n ≤ 1 ∧ m ≤ 0) ∨ (2 ≤ n ∧ n ≤ m + 1 ∧ m + 1 ≤ n) := by omega
    clear hm1 hm2 hm3 hL4
    go_upto_region 6 with (go_at_call 7; refine HSL.out.mono ?_; rintro e w5 ⟨ao, cp, rfl, hb5, hs5⟩)
    go_cut [60] (fun p wx => p = .bool false ∧ Below w5.heap.size w5 wx)
    case first =>
      rcases hm5 with ⟨h1, h2⟩ | ⟨h1, h2, h3⟩
      · go_wp2_with (go_at_call 8; refine (HV.out _ hb5).mono ?_; rintro e w6 ⟨rfl, hb6⟩)
        go_meet
        exact ⟨rfl, hb6⟩
      · go_wp2_with (go_at_call 8; refine (HV.out _ hb5).mono ?_; rintro e w6 ⟨rfl, hb6⟩)
        go_meet
        exact ⟨rfl, hb6⟩
    case rest =>
      obtain ⟨rfl, hbx⟩ := hcut
      have HRB : Hid (∀ i w, i < n → Below w4.heap.size w4 w → Calls Tryd.prog 10 #[.agg #[.int .i64 (lv i), .int .i64 (tk i)]] w fun e W' => e = .returned (.string (rideS (lv i) (tk i))) ∧ Below w.heap.size w W') := fun i w hi h => i_RideText (lv i) (tk i) w (HT10.out w (kept_trans hB4 h)).1
      have HRR : Hid (∀ i w, i < n → Below w4.heap.size w4 w → Calls Tryd.prog 9 #[.string (rideS (lv i) (tk i))] w fun e W' => e = .returned (.tuple #[.agg #[.int .i64 (lv i), .int .i64 (tk i)], .bool true]) ∧ Below w.heap.size w W') := fun i w hi h => by
        have hr := drawn_ride hd1 hn hi
        have hsz : (rideS (lv i) (tk i)).size ≤ 1048576 := by
          rw [ride_list hr, bsL_size]
          have ho := vRide_out hr
          have g1 : (Lib.decDigits (lv i).toNat).length = Lib.nDigits (lv i).toNat := by rw [Lib.decDigits_eq]; simp
          have g2 : (Lib.decDigits (tk i).toNat).length = Lib.nDigits (tk i).toNat := by rw [Lib.decDigits_eq]; simp
          have g3 := nd_le 9 (lv i).toNat (Nat.lt_of_le_of_lt (show (lv i).toNat ≤ 1440 by omega) (by decide))
          have g4 := nd_le 9 (tk i).toNat (Nat.lt_of_le_of_lt (show (tk i).toNat ≤ 1440 by omega) (by decide))
          simp
          omega
        have h2 := HT10.out w (kept_trans hB4 h)
        have := i_ReadRide (rideS (lv i) (tk i)) w hsz h2.1 h2.2
        rw [ride_back hr] at this
        exact this
      have hB6 := kept_trans hb5 hbx
      have hs6 : m ≤ 0 ∨ ∃ h, ao = some ⟨h, 0, none⟩ ∧ ∀ i, i < m → wc.cell? ⟨h, i, none⟩ = some (.int .i64 (lv (i + 1) - lv i - tk i - u)) := by
        rcases hs5 with h0 | ⟨h, e, hc⟩
        · exact .inl h0
        · exact .inr ⟨h, e, fun i hi => cell_keep hbx (hc i hi)⟩
      clear hs5 hbx hb5 HSL HV
      go_wp2
      go_loopw [9] (fun i wr => ∃ k : Nat, k ≤ m ∧ i = .int .i64 k ∧ Below wc.heap.size wc wr) (fun i _ => m - (intOf i).toNat)
      case atStart => exact ⟨0, by omega, rfl, Below.refl _ _⟩
      case round =>
        obtain ⟨k, hk, rfl, hbk⟩ := hrel
        by_cases hlt : k < m
        · as_aux_lemma =>
          rcases hs6 with h0 | ⟨h, rfl, hs6⟩
          · omega
          have y0 := cell_keep hbk (hs6 k hlt)
          have hrr := HROW.out.kept (kept_trans hB6 hbk)
          obtain ⟨x0, x1⟩ := rcells hrr (k := k) (by omega)
          obtain ⟨x2, -⟩ := rcells hrr (k := k + 1) (by omega)
          rw [Nat.zero_add] at x0 x1 x2
          have hbd := drawn_bds hd1 hn k (by omega)
          have hbd2 := drawn_bds hd1 hn (k + 1) (by omega)
          clear hs6 hrr
          generalize lv k = lk at *
          generalize lv (k + 1) = lk1 at *
          generalize tk k = tkk at *
          go_wp2
          go_quiet (fail)
          go_wp2
          go_roundw
          case rel => exact ⟨k + 1, by omega, by go_num, by repeat (first | exact hbk | refine kept_drewN ?_ _)⟩
          case measure => simp [intOf]; omega
        · as_aux_lemma =>
          have hB7 := kept_trans hB6 hbk
          clear hs6 hB6 hbk
          go_wp2
          clear hk hlt
          go_loopw [10] (fun i wr2 => ∃ k : Nat, k ≤ n ∧ i = .int .i64 k ∧ Below w4.heap.size w4 wr2) (fun i _ => n - (intOf i).toNat)
          case atStart => exact ⟨0, by omega, rfl, hB7⟩
          case round =>
            clear hB7
            obtain ⟨k, hk, rfl, hbk⟩ := hrel
            by_cases hlt : k < n
            · as_aux_lemma =>
              obtain ⟨x0, x1⟩ := rcells (HROW.out.kept hbk) (k := k) hlt
              rw [Nat.zero_add] at x0 x1
              have HX := Lib.hid (fun w h => HRB.out k w hlt h)
              have HY := Lib.hid (fun w h => HRR.out k w hlt h)
              generalize lv k = lk at *
              generalize tk k = tkk at *
              go_wp2_with (first
                | (go_at_call 10; refine (HX.out _ hbk).mono ?_; rintro e w7 ⟨rfl, hb7⟩; have hbk7 := kept_trans hbk hb7; have z0 := cell_keep hb7 x0; have z1 := cell_keep hb7 x1)
                | (go_at_call 9; refine (HY.out _ hbk7).mono ?_; rintro e w8 ⟨rfl, hb8⟩; have v0 := fun o => cell_keep (kept_alloc (Below.refl w8.heap.size w8) o) (cell_keep hb8 z0); have v1 := fun o => cell_keep (kept_alloc (Below.refl w8.heap.size w8) o) (cell_keep hb8 z1); have hbk8 := kept_trans hbk7 hb8; have t0 : (w8.alloc (.cells #[.int .i64 lk, .int .i64 tkk] 32)).cell? ⟨w8.heap.size, 0, none⟩ = some (.int .i64 lk) := boxed_at rfl rfl; have t1 : (w8.alloc (.cells #[.int .i64 lk, .int .i64 tkk] 32)).cell? ⟨w8.heap.size, 1, none⟩ = some (.int .i64 tkk) := boxed_at rfl rfl))
              go_quiet (fail)
              go_wp2
              go_roundw
              case rel => exact ⟨k + 1, by omega, by go_num, by repeat (first | exact hbk8 | refine kept_drewN ?_ _ | refine kept_alloc ?_ _)⟩
              case measure => simp [intOf]; omega
            · as_aux_lemma =>
              have hBk := kept_trans hB4 hbk
              clear HRB HRR
              go_upto_region 20 with (go_at_call 6; refine (HA.out _ _ _ hBk (by omega) (by omega)).mono ?_; rintro e wA ⟨f, rfl, hf, hbA⟩)
              have hf2 : 280 ≤ 280 + f ∧ 280 + f ≤ 479 := by omega
              generalize 280 + f = F at *
              go_upto_region 21 with (go_at_call 6; refine (HA.out _ _ _ (kept_trans hBk hbA) (by omega) (by omega)).mono ?_; rintro e wB ⟨uu, rfl, huu, hbB⟩)
              have hU2 : F ≤ F + uu ∧ F + uu ≤ F + 199 := by omega
              generalize F + uu = U at *
              have hbC := kept_trans (kept_trans hbk hbA) hbB
              clear hbA hbB hbk hBk
              have hbt := between_ok hvt hf2 hU2
              have HBT : Hid (Calls Tryd.prog 11 #[.slice (some ⟨c, 0, none⟩) n cap, .int .i64 F, .int .i64 U] wB fun e W' => ∃ (ao : Option Addr) (q cp : Nat), e = .returned (.tuple #[.slice ao q cp, .int .i64 0]) ∧ Below wB.heap.size wB W' ∧ (picks (fun k => inB (lv k) F U) n).length = q ∧ Sl W' (.slice ao q cp) 1 (picks (fun k => inB (lv k) F U) n).length (ic (lz (picks (fun k => inB (lv k) F U) n)))) := by
                refine (i_RidesBetween _ n lv tk F U wB (HS.out _ hbC)).mono ?_
                rintro e w' ⟨v, rfl, hb, ho⟩
                rw [hbt] at ho ⊢
                have hpl := picks_len (fun k => inB (lv k) F U) n
                have hs := ho.sl (by simp only; omega)
                have hs2 := hs
                obtain ⟨-, ao, cp, rfl, -⟩ := hs2
                exact ⟨ao, _, cp, rfl, hb, rfl, hs⟩
              have HHAS : Hid (∀ k v w, k < n → Sl w v 1 (picks (fun k => inB (lv k) F U) n).length (ic (lz (picks (fun k => inB (lv k) F U) n))) → Calls Tryd.prog 13 #[v, .int .i64 (k : Nat)] w fun e W' => e = .returned (.bool (inB (lv k) F U)) ∧ W' = w) := fun k v w hk h => by
                have := l_r8Has v _ (k : Int) w h
                rw [picks_at hk] at this
                exact this.mono fun _ _ h => ⟨h.1, h.2.symm⟩
              have HNF : Hid (∀ x, FirstAt lv F n x → (0 ≤ x ∧ (next n lv tk F).1 = x ∧ (next n lv tk F).2 = 0) ∨ (x < 0 ∧ (next n lv tk F).1 = 0 ∧ (next n lv tk F).2 = 3)) := fun x hx => by
                rcases next_first hvt hf2 hx with ⟨h1, h2⟩ | ⟨h1, h2⟩
                · exact .inl ⟨h1, by rw [h2], by rw [h2]⟩
                · exact .inr ⟨h1, by rw [h2], by rw [h2]⟩
              have HNX : Hid (∀ w, Below w4.heap.size w4 w → Calls Tryd.prog 12 #[.slice (some ⟨c, 0, none⟩) n cap, .int .i64 F] w fun e W' => e = .returned (.tuple #[.int .i64 (next n lv tk F).1, .int .i64 (next n lv tk F).2]) ∧ Below w.heap.size w W') := fun w h => i_NextRide _ n lv tk F w (HS.out w h)
              clear hbt
              generalize (next n lv tk F).1 = nx at *
              generalize (next n lv tk F).2 = nc at *
              generalize (picks (fun k => inB (lv k) F U) n).length = pn at *
              generalize ic (lz (picks (fun k => inB (lv k) F U) n)) = pf at *
              go_upto_region 26 with (first
                | (go_at_call 11; refine HBT.out.mono ?_; rintro e wD ⟨aoq, q, cpq, rfl, hbD, hq, hsD⟩)
                | (go_at_call 12; refine (HNX.out _ (kept_trans hbC hbD)).mono ?_; rintro e wE ⟨rfl, hbE⟩))
              have hbF := kept_trans (kept_trans hbC hbD) hbE
              have HSP := Lib.hid (hsD.kept hbE)
              clear hbC hbD hbE hsD HNX HBT
              go_wp2
              go_loopw [19, 20] (fun x i wr3 => ∃ (k : Nat) (y : Int), k ≤ n ∧ x = .int .i64 y ∧ i = .int .i64 k ∧ (-1 ≤ y ∧ y ≤ 7) ∧ Below wE.heap.size wE wr3 ∧ Hid (FirstAt lv F k y)) (fun _ i _ => n - (intOf i).toNat)
              case atStart => exact ⟨0, -1, by omega, rfl, rfl, by omega, Below.refl _ _, first_zero lv F⟩
              case round =>
                obtain ⟨k, y, hk, rfl, rfl, hy, hbk, HFA⟩ := hrel
                by_cases hlt : k < n
                · as_aux_lemma =>
                  obtain ⟨x0, -⟩ := rcells (HROW.out.kept (kept_trans hbF hbk)) (k := k) hlt
                  rw [Nat.zero_add] at x0
                  have HH := Lib.hid (fun w h => HHAS.out k (.slice aoq q cpq) w hlt h)
                  have HSQ := Lib.hid (HSP.out.kept hbk)
                  have HK1 := Lib.hid (first_keep HFA.out)
                  have HK2 := Lib.hid (first_new HFA.out)
                  clear HFA
                  go_upto_region 29 with (fail)
                  go_cut [164] (fun p wx => p = .bool false ∧ Below wr.heap.size wr wx)
                  case first =>
                    as_aux_lemma =>
                    rcases (show (lv k < F ∧ inB (lv k) F U = false) ∨ ((F ≤ lv k ∧ lv k ≤ U) ∧ inB (lv k) F U = true) ∨ ((F ≤ lv k ∧ U < lv k) ∧ inB (lv k) F U = false) by
                        by_cases h1 : F ≤ lv k
                        · by_cases h2 : lv k ≤ U
                          · exact .inr (.inl ⟨⟨h1, h2⟩, inB_yes h1 h2⟩)
                          · exact .inr (.inr ⟨⟨h1, by omega⟩, inB_no (by omega)⟩)
                        · exact .inl ⟨by omega, inB_no (by omega)⟩) with ⟨h1, h2⟩ | ⟨⟨h1, h3⟩, h2⟩ | ⟨⟨h1, h3⟩, h2⟩
                    · rw [h2] at HH
                      clear h2
                      generalize lv k = lk at *
                      have g1 : decide (F ≤ lk) = false := decide_eq_false (by omega)
                      go_quiet ((go_at_call 13; exact Calls.quiet_of_same (HH.out _ (HSQ.out.kept (kept_drewN (Below.refl _ _) _)))))
                      go_wp2
                      go_meet
                      exact ⟨rfl, by repeat (first | exact Below.refl _ _ | refine kept_drewN ?_ _)⟩
                    · rw [h2] at HH
                      clear h2
                      generalize lv k = lk at *
                      have g1 : decide (F ≤ lk) = true := decide_eq_true (by omega)
                      go_quiet ((go_at_call 13; exact Calls.quiet_of_same (HH.out _ (HSQ.out.kept (kept_drewN (Below.refl _ _) _)))))
                      go_wp2
                      go_meet
                      exact ⟨rfl, by repeat (first | exact Below.refl _ _ | refine kept_drewN ?_ _)⟩
                    · rw [h2] at HH
                      clear h2
                      generalize lv k = lk at *
                      have g1 : decide (F ≤ lk) = true := decide_eq_true (by omega)
                      go_quiet ((go_at_call 13; exact Calls.quiet_of_same (HH.out _ (HSQ.out.kept (kept_drewN (Below.refl _ _) _)))))
                      go_wp2
                      go_meet
                      exact ⟨by rw [decide_eq_false (by omega)], by repeat (first | exact Below.refl _ _ | refine kept_drewN ?_ _)⟩
                  case rest =>
                    obtain ⟨rfl, hbc⟩ := hcut
                    as_aux_lemma =>
                    have x9 := cell_keep hbc x0
                    clear x0 HH HSQ
                    by_cases h1 : y < 0
                    · by_cases h2 : F ≤ lv k
                      · have HN := Lib.hid (HK2.out h1 h2)
                        clear HK1 HK2
                        generalize lv k = lk at *
                        go_wp2
                        go_roundw
                        case rel => exact ⟨k + 1, k, by omega, rfl, by go_num, by omega, kept_trans hbk hbc, HN⟩
                        case measure => simp [intOf]; omega
                      · have HN := Lib.hid (HK1.out (.inr (by omega)))
                        clear HK1 HK2
                        generalize lv k = lk at *
                        go_wp2
                        go_roundw
                        case rel => exact ⟨k + 1, y, by omega, rfl, by go_num, hy, kept_trans hbk hbc, HN⟩
                        case measure => simp [intOf]; omega
                    · have HN := Lib.hid (HK1.out (.inl (by omega)))
                      clear HK1 HK2
                      go_wp2
                      go_roundw
                      case rel => exact ⟨k + 1, y, by omega, rfl, by go_num, hy, kept_trans hbk hbc, HN⟩
                      case measure => simp [intOf]; omega
                · obtain rfl : k = n := by omega
                  have hbG := kept_trans hbF hbk
                  go_upto_region 33 with (fail)
                  go_cut [190] (fun p wx => p = .bool false ∧ Below wr.heap.size wr wx)
                  case first =>
                    as_aux_lemma =>
                    rcases HNF.out y HFA.out with ⟨hy0, e1, e2⟩ | ⟨hy0, e1, e2⟩
                    all_goals
                      clear HFA HNF HHAS HSP
                      subst e1 e2
                      go_wp2
                      go_meet
                      exact ⟨by first | rfl | rw [decide_eq_false (by omega)], Below.refl _ _⟩
                  case rest =>
                    obtain ⟨rfl, hbc⟩ := hcut
                    have hbH := kept_trans hbG hbc
                    clear hbG hbc hbF hbk HFA HNF HHAS HSP
                    by_cases h0 : k ≤ 0
                    · go_wp2
                      go_ret
                      exact ⟨rfl, kept_trans hB4 hbH⟩
                    · as_aux_lemma =>
                      have h0' : 1 ≤ k := by omega
                      go_upto_region 38 with (go_at_call 6; refine (HA.out _ _ _ (kept_trans hB4 hbH) (by omega) (by omega)).mono ?_; rintro e wA ⟨x5, rfl, hx5, hbA⟩)
                      obtain ⟨K, hKx⟩ : ∃ K : Nat, x5 = (K : Int) := ⟨x5.toNat, by omega⟩
                      have hk1 : x5 ≤ (K : Int) := by omega
                      have hk2 : (K : Int) ≤ x5 := by omega
                      have HKX := Lib.hid hKx
                      clear hKx
                      have hK : K < k := by omega
                      have hbI := kept_trans hbH hbA
                      go_upto_region 39 with (go_at_call 6; refine (HA.out _ _ _ (kept_trans hB4 hbI) (by omega) (by omega)).mono ?_; rintro e wB ⟨d, rfl, hd, hbB⟩)
                      have hbJ := kept_trans hbI hbB
                      clear hbH hbA hbI hbB HA
                      have hd2 : 0 ≤ d ∧ d ≤ 39 := by omega
                      obtain ⟨ha1, ha2, ha3⟩ := delay_ok hvt hK hd2 hu2
                      have HDL : Hid (Calls Tryd.prog 14 #[.slice (some ⟨c, 0, none⟩) k cap, .int .i64 x5, .int .i64 d, .int .i64 u] wB fun e W' => ∃ (h : Nat) (cp : Nat), e = .returned (.tuple #[.slice (some ⟨h, 0, none⟩) k cp, .int .i64 0]) ∧ Below wB.heap.size wB W' ∧ ∀ i, i < k → W'.cell? ⟨h, i, none⟩ = some (.int .i64 (late lv tk K d u i))) := by
                        rw [HKX.out]
                        refine (i_DelayedRides _ k lv tk K d u wB (HS.out _ hbJ)).mono ?_
                        rintro e w' ⟨v, rfl, hb, ho⟩
                        rw [ha1, ha2] at *
                        rw [Int.toNat_natCast] at ho
                        obtain ⟨h, cp2, rfl, -, hr2⟩ := ho.opened (by omega)
                        refine ⟨h, cp2, by rw [ha1], hb, fun i hi => ?_⟩
                        have := hr2.cell (i := i) (by omega)
                        rw [Nat.zero_add] at this
                        exact this
                      have HTD : Hid (∀ w, Below w4.heap.size w4 w → Calls Tryd.prog 15 #[.slice (some ⟨c, 0, none⟩) k cap, .int .i64 x5, .int .i64 d, .int .i64 u] w fun e W' => e = .returned (.tuple #[.int .i64 (lateSum lv tk K d u k), .int .i64 0]) ∧ Below w.heap.size w W') := fun w h => by
                        have := i_TotalDelay _ k lv tk K d u w (HS.out w h)
                        rw [ha1, ha3, ← HKX.out] at this
                        exact this
                      have HBD := Lib.hid (drawn_bds hd1 hn)
                      have HLT : Hid (∀ i, i < k → (lv i ≤ late lv tk K d u i) ∧ (0 ≤ lv i ∧ lv i ≤ 1440 ∧ 1 ≤ tk i ∧ tk i ≤ 1440) ∧ (0 ≤ late lv tk K d u i ∧ late lv tk K d u i ≤ 100000) ∧ ((i < K ∧ late lv tk K d u i = lv i) ∨ (i = K ∧ late lv tk K d u i = lv i + d) ∨ (K < i ∧ late lv tk K d u i = max (lv i) (late lv tk K d u (i - 1) + tk (i - 1) + u)))) := fun i hi => by
                        refine ⟨late_ge hd2.1 i, HBD.out i hi, ?_, ?_⟩
                        · have := late_bd (k := K) (d := d) (t := u) HBD.out (by omega) (by omega) i hi
                          omega
                        · rcases Nat.lt_trichotomy i K with h | h | h
                          · exact .inl ⟨h, late_lt h⟩
                          · subst h; exact .inr (.inl ⟨rfl, late_eq⟩)
                          · exact .inr (.inr ⟨h, late_gt h⟩)
                      have HSB : Hid (∀ i, i ≤ k → -700000 ≤ lateSum lv tk K d u i ∧ lateSum lv tk K d u i ≤ 700000) := fun i hi => by
                        have := lateSum_bd (k := K) (d := d) (t := u) HBD.out (by omega) (by omega) (by omega) i hi
                        omega
                      have HS0 : Hid (lateSum lv tk K d u 0 = 0) := lateSum_zero lv tk K d u
                      have HSS : Hid (∀ i, lateSum lv tk K d u (i + 1) = lateSum lv tk K d u i + (late lv tk K d u i - lv i)) := fun i => lateSum_succ lv tk K d u i
                      clear ha1 ha2 ha3 HBD
                      generalize lateSum lv tk K d u = S at *
                      generalize late lv tk K d u = L at *
                      go_upto_region 43 with (first
                        | (go_at_call 14; refine HDL.out.mono ?_; rintro e wD ⟨hh, cpd, rfl, hbD, hcD⟩)
                        | (go_at_call 15; refine (HTD.out _ (kept_trans hbJ hbD)).mono ?_; rintro e wE ⟨rfl, hbE⟩))
                      have hbK := kept_trans (kept_trans hbJ hbD) hbE
                      have HCD : Hid (∀ i, i < k → wE.cell? ⟨hh, i, none⟩ = some (.int .i64 (L i))) := fun i hi => cell_keep hbE (hcD i hi)
                      clear hbJ hbD hbE hcD HDL HTD
                      go_wp2
                      go_loopw [25, 27] (fun p i wr4 => ∃ j : Nat, j ≤ k ∧ p = .int .i64 (S k - S j) ∧ i = .int .i64 j ∧ Below wE.heap.size wE wr4) (fun _ i _ => k - (intOf i).toNat)
                      case atStart => exact ⟨0, by omega, by rw [HS0.out]; simp, rfl, Below.refl _ _⟩
                      case round =>
                        obtain ⟨j, hj, rfl, rfl, hbk⟩ := hrel
                        have hSk := HSB.out k (Nat.le_refl _)
                        have hSj := HSB.out j hj
                        by_cases hlt : j < k
                        · as_aux_lemma =>
                          have hrr := HROW.out.kept (kept_trans hbK hbk)
                          obtain ⟨x0, -⟩ := rcells hrr (k := j) hlt
                          rw [Nat.zero_add] at x0
                          have y0 := cell_keep hbk (HCD.out j hlt)
                          have HJ := Lib.hid (HLT.out j hlt)
                          have hj1 := HJ.out.1
                          have hj2 := HJ.out.2.1
                          have hj3 := HJ.out.2.2.1
                          have hS1 := HSB.out (j + 1) (by omega)
                          have hSS := HSS.out j
                          have HP : Hid (0 < j → wr.cell? ⟨c, (j - 1) * 2 + 1, none⟩ = some (.int .i64 (tk (j - 1))) ∧ wr.cell? ⟨hh, j - 1, none⟩ = some (.int .i64 (L (j - 1))) ∧ (0 ≤ L (j - 1) ∧ L (j - 1) ≤ 100000) ∧ (1 ≤ tk (j - 1) ∧ tk (j - 1) ≤ 1440)) := fun h => by
                            obtain ⟨-, z1⟩ := rcells hrr (k := j - 1) (by omega)
                            rw [Nat.zero_add] at z1
                            have := HLT.out (j - 1) (by omega)
                            exact ⟨z1, cell_keep hbk (HCD.out (j - 1) (by omega)), this.2.2.1, this.2.1.2.2⟩
                          clear hrr
                          generalize lv j = lj at *
                          generalize L j = Lj at *
                          generalize tk j = tj at *
                          go_upto_region 46 with (fail)
                          go_quiet (fail)
                          have x1 : (wr.drewN nq).cell? ⟨c, j * 2, none⟩ = some (.int .i64 lj) := x0
                          have y1 : (wr.drewN nq).cell? ⟨hh, j, none⟩ = some (.int .i64 Lj) := y0
                          have HP1 : Hid (0 < j → (wr.drewN nq).cell? ⟨c, (j - 1) * 2 + 1, none⟩ = some (.int .i64 (tk (j - 1))) ∧ (wr.drewN nq).cell? ⟨hh, j - 1, none⟩ = some (.int .i64 (L (j - 1))) ∧ (0 ≤ L (j - 1) ∧ L (j - 1) ≤ 100000) ∧ (1 ≤ tk (j - 1) ∧ tk (j - 1) ≤ 1440)) := HP.out
                          have hbl : Below wE.heap.size wE (wr.drewN nq) := kept_drewN hbk nq
                          clear HP x0 y0 hbk
                          generalize wr.drewN nq = wq at *
                          go_upto_region 47 with (fail)
                          go_cut [292] (fun p wx => p = .bool false ∧ Below wq.heap.size wq wx)
                          case first =>
                            as_aux_lemma =>
                            have g0 : decide (Lj < lj) = false := decide_eq_false (by omega)
                            rcases HJ.out.2.2.2 with ⟨h1, h2⟩ | ⟨h1, h2⟩ | ⟨h1, h2⟩
                            · have g1 : decide ((j : Int) < x5) = true := decide_eq_true (by omega)
                              have g4 : (j : Int) < x5 := by omega
                              have g2 : ((j : Int) == x5) = false := by rw [beq_eq_false_iff_ne]; omega
                              clear HJ HP1 h1 hk1 hk2
                              subst h2
                              go_quiet (fail)
                              go_wp2
                              go_meet
                              exact ⟨by first | rfl | (simp [*]; done) | (simp [*]; omega), by repeat (first | exact Below.refl _ _ | refine kept_drewN ?_ _)⟩
                            · have hxe : x5 = (j : Int) := by omega
                              clear HJ HP1 h1 hk1 hk2 HKX
                              subst h2 hxe
                              go_quiet (fail)
                              go_wp2
                              go_meet
                              exact ⟨by first | rfl | (simp [*]; done) | (simp [*]; omega), by repeat (first | exact Below.refl _ _ | refine kept_drewN ?_ _)⟩
                            · have g1 : decide ((j : Int) < x5) = false := decide_eq_false (by omega)
                              have g4 : x5 < (j : Int) := by omega
                              have g2 : ((j : Int) == x5) = false := by rw [beq_eq_false_iff_ne]; omega
                              clear HJ HP1 h2 h1 hk1 hk2
                              go_quiet (fail)
                              go_wp2
                              go_meet
                              exact ⟨by first | rfl | (simp [*]; done) | (simp [*]; omega), by repeat (first | exact Below.refl _ _ | refine kept_drewN ?_ _)⟩
                          case rest =>
                            as_aux_lemma =>
                            obtain ⟨rfl, hbc⟩ := hcut
                            have x2 := cell_keep hbc x1
                            have y2 := cell_keep hbc y1
                            have hbm := kept_trans hbl hbc
                            have HP2 : Hid (0 < j → wc.cell? ⟨c, (j - 1) * 2 + 1, none⟩ = some (.int .i64 (tk (j - 1))) ∧ wc.cell? ⟨hh, j - 1, none⟩ = some (.int .i64 (L (j - 1))) ∧ (0 ≤ L (j - 1) ∧ L (j - 1) ≤ 100000) ∧ (1 ≤ tk (j - 1) ∧ tk (j - 1) ≤ 1440)) := fun h => ⟨cell_keep hbc (HP1.out h).1, cell_keep hbc (HP1.out h).2.1, (HP1.out h).2.2⟩
                            clear x1 y1 hbl HP1 hbc
                            go_wp2
                            go_cut [322] (fun p wx => p = .bool false ∧ Below wE.heap.size wE wx)
                            case first =>
                              as_aux_lemma =>
                              by_cases hKj : x5 < (j : Int)
                              · have g1 : decide (x5 < (j : Int)) = true := decide_eq_true hKj
                                obtain ⟨p1, p2, p3, p4⟩ := HP2.out (by omega)
                                have hmx : Lj = max lj (L (j - 1) + tk (j - 1) + u) := by
                                  rcases HJ.out.2.2.2 with ⟨h1, h2⟩ | ⟨h1, h2⟩ | ⟨h1, h2⟩
                                  · omega
                                  · omega
                                  · exact h2
                                clear HP2 HJ
                                generalize L (j - 1) = Lp at *
                                generalize tk (j - 1) = tp at *
                                by_cases hm : lj < Lp + tp + u
                                · have e1 : Lj ≤ Lp + tp + u := by omega
                                  have e2 : Lp + tp + u ≤ Lj := by omega
                                  clear hmx
                                  go_quiet (fail)
                                  go_wp2
                                  go_meet
                                  exact ⟨by first | rfl | (simp [*]; done) | (simp [*]; omega), by repeat (first | exact hbm | refine kept_drewN ?_ _)⟩
                                · have e1 : Lj ≤ lj := by omega
                                  have e2 : lj ≤ Lj := by omega
                                  clear hmx
                                  go_quiet (fail)
                                  go_wp2
                                  go_meet
                                  exact ⟨by first | rfl | (simp [*]; done) | (simp [*]; omega), by repeat (first | exact hbm | refine kept_drewN ?_ _)⟩
                              · have g1 : decide (x5 < (j : Int)) = false := decide_eq_false hKj
                                clear HP2 HJ
                                go_quiet (fail)
                                go_wp2
                                go_meet
                                exact ⟨by first | rfl | (simp [*]; done) | (simp [*]; omega), by repeat (first | exact hbm | refine kept_drewN ?_ _)⟩
                            case rest =>
                              as_aux_lemma =>
                              obtain ⟨rfl, hbn⟩ := hcut
                              clear HP2 HJ x2 y2 hbm
                              go_wp2
                              go_roundw
                              case rel => exact ⟨j + 1, by omega, by congr 1; omega, by go_num, hbn⟩
                              case measure => simp [intOf]; omega
                        · as_aux_lemma =>
                          have hje : j = k := by omega
                          subst hje
                          have hbN := kept_trans hbK hbk
                          have hSj := HSB.out j (Nat.le_refl _)
                          clear HSS HS0 HSB HLT HCD hbK hbk
                          by_cases hn2 : j ≤ 1
                          · have HLW : Hid (Calls Tryd.prog 16 #[.slice (some ⟨c, 0, none⟩) j cap] wr fun e W' => e = .returned (.tuple #[.int .i64 0, .int .i64 0, .int .i64 3]) ∧ Below wr.heap.size wr W') := by
                              have := i_LongestWait _ j lv tk wr (HS.out _ hbN)
                              rw [longest_few hvt hn2] at this
                              exact this
                            go_wp2_with (go_at_call 16; refine HLW.out.mono ?_; rintro e wL ⟨rfl, hbL⟩)
                            refine wp_loop_rounds 1 ?_
                            rw [rounds_succ]
                            go_wp2
                            go_ret
                            exact ⟨by simp, kept_trans hB4 (kept_trans hbN hbL)⟩
                          · obtain ⟨jq, mm, hlm, hj1, hj2, hj3, hj4⟩ := longest_many hd1 hn (by omega)
                            have HLW : Hid (Calls Tryd.prog 16 #[.slice (some ⟨c, 0, none⟩) j cap] wr fun e W' => e = .returned (.tuple #[.int .i64 jq, .int .i64 mm, .int .i64 0]) ∧ Below wr.heap.size wr W') := by
                              have := i_LongestWait _ j lv tk wr (HS.out _ hbN)
                              rw [hlm] at this
                              exact this
                            have HJ4 := Lib.hid hj4
                            have HBD := Lib.hid (drawn_bds hd1 hn)
                            clear hlm hj4 hvt
                            go_upto_region 53 with (go_at_call 16; refine HLW.out.mono ?_; rintro e wL ⟨rfl, hbL⟩)
                            have hbO := kept_trans hbN hbL
                            have HRO := Lib.hid (HROW.out.kept hbO)
                            clear hbN hbL HLW
                            go_cut [354] (fun p wx => p = .bool false ∧ Below wL.heap.size wL wx)
                            case first =>
                              as_aux_lemma =>
                              obtain ⟨x0, -⟩ := rcells HRO.out (k := jq) (by omega)
                              obtain ⟨x1, -⟩ := rcells HRO.out (k := jq - 1) (by omega)
                              rw [Nat.zero_add] at x0 x1
                              have b0 := HBD.out jq (by omega)
                              have b1 := HBD.out (jq - 1) (by omega)
                              have e1 : lv jq - lv (jq - 1) ≤ mm := by omega
                              have e2 : mm ≤ lv jq - lv (jq - 1) := by omega
                              have g1 : decide (jq < 1) = false := decide_eq_false (by omega)
                              have g2 : decide (j ≤ jq) = false := decide_eq_false (by omega)
                              have g3 : decide ((jq : Int) < 1) = false := decide_eq_false (by omega)
                              clear hj3 HRO
                              generalize lv jq = l1 at *
                              generalize lv (jq - 1) = l0 at *
                              go_quiet (fail)
                              go_wp2
                              go_meet
                              exact ⟨by first | rfl | (simp [*]; done) | (simp [*]; omega), by repeat (first | exact Below.refl _ _ | refine kept_drewN ?_ _)⟩
                            case rest =>
                              as_aux_lemma =>
                              obtain ⟨rfl, hbp⟩ := hcut
                              have hbQ := kept_trans hbO hbp
                              clear HRO hbO hbp hj3
                              go_wp2
                              go_loopw [31] (fun i wr5 => ∃ q : Nat, 1 ≤ q ∧ q ≤ j ∧ i = .int .i64 q ∧ Below w4.heap.size w4 wr5) (fun i _ => j - (intOf i).toNat)
                              case atStart => exact ⟨1, by omega, by omega, rfl, hbQ⟩
                              case round =>
                                clear hbQ
                                obtain ⟨q, hq1, hq2, rfl, hbk⟩ := hrel
                                by_cases hlt : q < j
                                · as_aux_lemma =>
                                  obtain ⟨x0, -⟩ := rcells (HROW.out.kept hbk) (k := q) hlt
                                  obtain ⟨x1, -⟩ := rcells (HROW.out.kept hbk) (k := q - 1) (by omega)
                                  rw [Nat.zero_add] at x0 x1
                                  have b0 := HBD.out q hlt
                                  have b1 := HBD.out (q - 1) (by omega)
                                  have e1 := HJ4.out q hq1 hlt
                                  generalize lv q = l1 at *
                                  generalize lv (q - 1) = l0 at *
                                  go_wp2
                                  go_quiet (fail)
                                  go_wp2
                                  go_roundw
                                  case rel => exact ⟨q + 1, by omega, by omega, by go_num, by repeat (first | exact hbk | refine kept_drewN ?_ _)⟩
                                  case measure => simp [intOf]; omega
                                · as_aux_lemma =>
                                  go_wp2
                                  go_ret
                                  exact ⟨by simp, kept_trans hB4 hbk⟩
  · have HLY : Hid (Calls Tryd.prog 4 #[va, vb] W fun e W' => e = .returned (.bool true) ∧ W = W') := by
      have := l_r8Long va vb na nb W ha hb
      rw [decide_eq_false hl] at this
      exact this
    obtain ⟨-, aoa, capa, rfl, -⟩ := ha
    obtain ⟨-, aob, capb, rfl, -⟩ := hb
    clear hl
    go_enter Tryd.func3, Tryd.ntmps3
    go_wp2_with (go_at_call 4; refine HLY.out.mono ?_; rintro e w0 ⟨rfl, rfl⟩)
    go_ret
    exact ⟨rfl, Below.refl _ _⟩

end Go.Proofs.YteieiceknnnphaaDoor
