/- The law on trips: the walk. It holds of every two inputs. No condition but that the world holds the listed tables. -/
import Derived.Test.YtjmklkhdemolmaaGreatDoorTrA
import Derived.Test.YtjmklkhdemolmaaGreatDoorCheapN
import Derived.Test.YtjmklkhdemolmaaGreatDoorBreakI
import Derived.Test.YtjmklkhdemolmaaGreatDoorDrawR
import Derived.Test.YtjmklkhdemolmaaGreatDoorDrawH
import Derived.Test.YtjmklkhdemolmaaGreatDoorRfW
import Derived.Test.YtjmklkhdemolmaaGreatDoorFareT
import Derived.Test.YtjmklkhdemolmaaGreatDoorMrgB
import Derived.Deep.DeepCutAuto
import Derived.Deep.QuietTactic
import Derived.BigQuiet
namespace Go.Proofs.YtjmklkhdemolmaaGreatDoor
open Go.RowKit Go.Deep
set_option linter.unusedVariables false
set_option maxRecDepth 100000

theorem ch_ex (m : Nat) (a : Nat → ByteArray) (b c d : Nat → Int) (n : Nat) (z : Nat → Int) : ∃ r0 M r2, ChAns m a b c d n z r0 M r2 ∧ M.length ≤ 17592186044416 := by
  cases hv : vFares m a b c d
  · exact ⟨0, [], 1, .inl ⟨hv, rfl, rfl, rfl⟩, by simp⟩
  · cases ht : trOk n z
    · exact ⟨0, [], 2, .inr (.inl ⟨hv, ht, rfl, rfl, rfl⟩), by simp⟩
    · by_cases h0 : m = 0 ∧ 0 < n
      · exact ⟨0, [], 3, .inr (.inr (.inl ⟨hv, ht, h0.1, h0.2, rfl, rfl, rfl⟩)), by simp⟩
      · obtain ⟨L, P, hG⟩ := good_ex (z := z) (c := b) (r := c) (d := d) (m := m) (n := n) (fun i hi => pk_one (vFares_FB hv).2 (by omega) i)
        refine ⟨L 0, _, 0, .inr (.inr (.inr ⟨hv, ht, by omega, L, P, hG, rfl, rfl, rfl⟩)), ?_⟩
        rw [idF_len]
        have h1 : endF P n ≤ n + 1 := by unfold endF; exact firstTo_le _ _
        have h2 := (trOk_out ht).1
        omega
theorem fare_same {s : ByteArray} (h : rfOk s = true) : fareS (rfA s) (rfV s 0) (rfV s 1) (rfV s 2) = s ∧ rfA s = nmA s := by
  have h1 := rf_hand.2 h
  rw [h1.1, h1.2.1, h1.2.2.1, h1.2.2.2]
  have h2 := h
  unfold rfOk at h2
  simp only [Bool.and_eq_true, decide_eq_true_eq] at h2
  exact ⟨h2.2, rfl⟩
/-- The inner sum. -/
def inC (b : Nat → Int) (x : Int) (j q : Nat) : Int := if j < q then x + b j else x
theorem inC_miss {b : Nat → Int} {x : Int} {j q : Nat} (h : q ≠ j) : inC b x j (q + 1) = inC b x j q := by
  unfold inC
  by_cases h1 : j < q
  · rw [if_pos h1, if_pos (by omega)]
  · rw [if_neg h1, if_neg (by omega)]
theorem inC_hit {b : Nat → Int} {x : Int} {j : Nat} : inC b x j (j + 1) = inC b x j j + b j := by
  unfold inC
  rw [if_pos (by omega), if_neg (by omega)]
theorem inC_zero {b : Nat → Int} {x : Int} {j : Nat} : inC b x j 0 = x := if_neg (by omega)
theorem inC_end {b : Nat → Int} {x : Int} {j m : Nat} (h : j < m) : inC b x j m = x + b j := if_pos h
theorem inC_bd {b : Nat → Int} {x B C : Int} {j q : Nat} (hx : 0 ≤ x ∧ x ≤ B) (hb : 0 ≤ b j ∧ b j ≤ C) : 0 ≤ inC b x j q ∧ inC b x j q ≤ B + C := by
  unfold inC; split <;> omega
theorem one_cost {k : Nat} {x : Int} (hk : k ≤ 40) (hx : 0 ≤ x ∧ x ≤ 100000) : 0 ≤ (k : Int) * x ∧ (k : Int) * x ≤ 4000000 := by
  refine ⟨Int.mul_nonneg (by omega) hx.1, ?_⟩
  have := Int.mul_le_mul (show (k : Int) ≤ 40 by omega) hx.2 hx.1 (by omega)
  omega
theorem be_bdR {k ac ar : Int} (hk : 0 ≤ k ∧ k ≤ 1000) (ha : 0 ≤ ac ∧ ac ≤ 100000) (hr : 1 ≤ ar ∧ ar ≤ 1000) : ∃ Q, (k + ar - 1) / ar = Q ∧ (k + ar - 1).tdiv ar = Q ∧ (0 ≤ Q ∧ Q ≤ 2000) ∧ 0 ≤ Q * ac ∧ Q * ac ≤ 200000000 := by
  have h1 : 0 ≤ (k + ar - 1) / ar := Int.ediv_nonneg (by omega) (by omega)
  have h2 : (k + ar - 1) / ar ≤ k + ar - 1 := Int.ediv_le_self _ (by omega)
  refine ⟨_, rfl, Int.tdiv_eq_ediv_of_nonneg (by omega), ⟨h1, by omega⟩, Int.mul_nonneg h1 ha.1, ?_⟩
  have := Int.mul_le_mul (show (k + ar - 1) / ar ≤ 2000 by omega) ha.2 ha.1 (by omega)
  omega
attribute [irreducible] inC

set_option maxHeartbeats 80000000 in
theorem l_Trips {W : World} (va : Value) (na : Nat) (ha : ByS W va na) (vb : Value) (nb : Nat) (hb : ByS W vb nb) (htab : TabM W) : Calls Tryz.prog 3 #[va, vb] W (Truly W) := by
  unfold Truly
  have HL1 := Lib.hid (l_b10Long va na W ha)
  have HL2 := Lib.hid (l_b10Long vb nb W hb)
  by_cases hl1 : na ≤ 1048576
  · rw [decide_eq_true hl1] at HL1
    by_cases hl2 : nb ≤ 1048576
    · rw [decide_eq_true hl2] at HL2
      have HD := Lib.hid (s_DrawCheapestFares va na W ha hl1)
      have HD2 := Lib.hid (fun w (h : Below W.heap.size W w) => s_DrawBreakEven vb nb w (hb.kept h) hl2)
      have HD3 := Lib.hid (fun w (h : Below W.heap.size W w) => s_DrawReadFare va na w (ha.kept h) hl1)
      have HT : Hid (∀ w, Below W.heap.size W w → TabM w) := fun w h => htab.kept h
      obtain ⟨-, aoa, capa, rfl, -⟩ := ha
      obtain ⟨-, aob, capb, rfl, -⟩ := hb
      clear hl1 hl2 htab
      go_enter Tryz.func3, Tryz.ntmps3
      go_upto_region 4 with (first
        | (go_at_call 4; have _two := tok1; refine HL2.out.mono ?_; rintro e w0 ⟨rfl, rfl⟩)
        | (go_at_call 4; refine HL1.out.mono ?_; rintro e w0 ⟨rfl, rfl⟩; have tok1 : True := trivial)
        | (go_at_call 5; refine HD.out.mono ?_; rintro e w1 ⟨vl, m, a, b, c, d, gt, cp, k, z, rfl, ⟨hm9, hk60, hkc, hcpm⟩, hb1, hsl, hsh, hrw⟩))
      clear HL1 HL2 HD
      have hcp : cp ≤ 9223372036854775807 := by simpa [maxLen] using hcpm
      have hx : Hid (∀ i, i < m → ((a i).size : Int) ≤ 1048576) := fun i hi => by have := hsh i hi; omega
      obtain ⟨r0, M, r2, hA, hMl⟩ := ch_ex m a b c d k z
      have HCh := Lib.hid (i_CheapestFares vl m a b c d gt k cp z r0 M r2 hA w1 hsl (by omega) ⟨hkc, hcp⟩ hrw hx)
      unfold ChPost at HCh
      obtain ⟨E, hE⟩ : ∃ E, M.length = E := ⟨_, rfl⟩
      rw [hE] at HCh hMl
      have HSL := Lib.hid hsl
      have HRW := Lib.hid hrw
      obtain ⟨-, lo, lc, rfl, -⟩ := id hsl
      have HA := Lib.hid hA
      clear hsl hrw hA
      go_upto_if 49 with (go_at_call 6; refine HCh.out.mono ?_; rintro e w2 ⟨g, rfl, hb2, hog⟩; have hsg := hog.sl hMl; have hsg2 := hsg; obtain ⟨-, go, gcp, rfl, -⟩ := hsg2)
      have HS2 : Hid (∀ w, Below w2.heap.size w2 w → Sl w (.slice lo m lc) 4 m (gc a b c d) ∧ Row w gt 0 k (ic z) ∧ Sl w (.slice go E gcp) 1 E (sc (tl M))) := fun w h => ⟨(HSL.out.kept hb2).kept h, (HRW.out.kept hb2).kept h, hsg.kept h⟩
      clear HCh hog hsg HSL HRW
      go_cut [] (fun wx => Below w2.heap.size w2 wx)
      case first =>
        as_aux_lemma =>
        by_cases h0 : r2 = 0
        · as_aux_lemma =>
          obtain ⟨hv, ht, hm0, L, P, hG, rfl, hM⟩ := ch_ok HA.out h0
          subst h0
          obtain ⟨hk40, hL0, hm8⟩ := ch_bds hv ht hm0 hG
          obtain ⟨g1, g2, g3, g4, g5⟩ := hG.all
          have hFB := (vFares_FB hv).2
          have hlen : E = endF P k := by rw [← hE, hM, idF_len]
          have HNM : Hid (∀ t, t < endF P k → tl M t = a (jt z b c d m P t)) := fun t ht => by
            unfold tl
            rw [hM]
            exact idF_get a _ t ht
          have HNE : Hid (∀ q j, q < m → j < m → q ≠ j → ((a q).toList == (a j).toList) = false) := fun q j h1 h2 h3 => by
            rw [beq_eq_false_iff_ne]
            exact fun e => h3 (vFares_ne hv h1 h2 e)
          have HJ := Lib.hid g5
          have HSM : Hid (∀ t, t ≤ endF P k → (0 ≤ cSum z b c d m P t ∧ cSum z b c d m P t ≤ 4000000) ∧ (0 ≤ rSum z b c d m P t ∧ rSum z b c d m P t ≤ 40000)) := fun t ht => by
            have := sums_bd (z := z) (P := P) hFB t (fun s hs => g5 s (by omega))
            omega
          have HC1 : Hid (∀ t, cSum z b c d m P (t + 1) = cSum z b c d m P t + b (jt z b c d m P t)) := fun t => rfl
          have HR1 : Hid (∀ t, rSum z b c d m P (t + 1) = rSum z b c d m P t + c (jt z b c d m P t)) := fun t => rfl
          have hc0 : cSum z b c d m P 0 = 0 := rfl
          have hr0 : rSum z b c d m P 0 = 0 := rfl
          have HFB := Lib.hid hFB
          have HSG : Hid (∀ q, q < m → L 0 ≤ k * b q) := fun q hq => hG.single' hFB hq
          have HLS : Hid (∀ n', k = n' + 1 → ∀ r0' M' r2', ChAns m a b c d n' (fun i => z (i + 1)) r0' M' r2' → r2' = 0 ∧ r0' ≤ L 0) := fun n' e r0' M' r2' h => by
            subst e
            exact ch_less hv ht (by omega) hG h
          subst hlen
          clear hM hE hG hFB hv ht g5
          generalize jt z b c d m P = J at *
          generalize cSum z b c d m P = CS at *
          generalize rSum z b c d m P = RS at *
          generalize endF P k = E at *
          generalize L 0 = L0 at *
          generalize tl M = nm at *
          go_wp2
          go_loopw [10, 11, 12] (fun u v i wr => ∃ t : Nat, t ≤ E ∧ u = .int .i64 (CS t) ∧ v = .int .i64 (RS t) ∧ i = .int .i64 t ∧ Below w2.heap.size w2 wr) (fun _ _ i _ => E - (intOf i).toNat)
          case atStart => exact ⟨0, by omega, by rw [hc0], by rw [hr0], rfl, Below.refl _ _⟩
          case round =>
            obtain ⟨t, htE, rfl, rfl, rfl, hbt⟩ := hrel
            by_cases hlt : t < E
            · as_aux_lemma =>
              have hj := HJ.out t hlt
              have hsm := HSM.out t htE
              have hnm := HNM.out t hlt
              have hfb := HFB.out (J t) hj
              have HC2 := Lib.hid (HC1.out t)
              have HR2 := Lib.hid (HR1.out t)
              generalize J t = j at *
              generalize CS t = cs at *
              generalize RS t = rs at *
              go_wp2
              go_loopw [10, 11, 13] (fun u v i wq => ∃ q : Nat, q ≤ m ∧ u = .int .i64 (inC b cs j q) ∧ v = .int .i64 (inC c rs j q) ∧ i = .int .i64 q ∧ Below w2.heap.size w2 wq) (fun _ _ i _ => m - (intOf i).toNat)
              case atStart => exact ⟨0, by omega, by rw [inC_zero], by rw [inC_zero], rfl, hbt⟩
              case round =>
                clear hbt
                obtain ⟨q, hqm, rfl, rfl, rfl, hbq⟩ := hrel
                by_cases hql : q < m
                · as_aux_lemma =>
                  obtain ⟨hs2, hr2, hn2⟩ := HS2.out _ hbq
                  obtain ⟨-, lo', lc', el, hlr⟩ := hs2
                  obtain ⟨-, no', nc', en, hnr⟩ := hn2
                  simp only [Value.slice.injEq] at el en
                  obtain ⟨rfl, -, rfl⟩ := el
                  obtain ⟨rfl, -, rfl⟩ := en
                  rcases hlr with hh | ⟨gl, ol, rfl, hlr⟩
                  · omega
                  rcases hnr with hh | ⟨gn, on, rfl, hnr⟩
                  · omega
                  obtain ⟨x0, x1, x2, x3⟩ := gccells hlr (e := q) hql
                  have y0 := hnr.cell (i := t) (by omega)
                  simp only [sc, hnm] at y0
                  have hqm2 : (q : Int) < m := by omega
                  have htE2 : (t : Int) < E := by omega
                  have i1 := inC_bd (b := b) (q := q) hsm.1 hfb.1
                  have i2 := inC_bd (b := c) (x := rs) (B := 40000) (C := 1000) (j := j) (q := q) hsm.2 (by omega)
                  by_cases hqj : q = j
                  · as_aux_lemma =>
                    subst hqj
                    have HI1 := Lib.hid (inC_hit (b := b) (x := cs) (j := q))
                    have HI2 := Lib.hid (inC_hit (b := c) (x := rs) (j := q))
                    generalize inC b cs q q = v1 at *
                    generalize inC c rs q q = v2 at *
                    generalize a q = aq at *
                    generalize b q = bq at *
                    generalize c q = cq at *
                    go_wp2_with fail
                    go_quiet (fail)
                    go_wp2_with fail
                    go_roundw
                    case rel => exact ⟨q + 1, by omega, by rw [HI1.out], by rw [HI2.out], by go_num, kept_drewN hbq _⟩
                    case measure => simp [intOf]; omega
                  · as_aux_lemma =>
                    have he := HNE.out q j hql hj hqj
                    have HI1 := Lib.hid (inC_miss (b := b) (x := cs) hqj)
                    have HI2 := Lib.hid (inC_miss (b := c) (x := rs) hqj)
                    go_wp2_with fail
                    go_quiet (fail)
                    go_wp2_with fail
                    go_roundw
                    case rel => exact ⟨q + 1, by omega, by rw [HI1.out], by rw [HI2.out], by go_num, kept_drewN hbq _⟩
                    case measure => simp [intOf]; omega
                · as_aux_lemma =>
                  obtain rfl : m = q := by omega
                  have HI1 := Lib.hid (inC_end (b := b) (x := cs) hj)
                  have HI2 := Lib.hid (inC_end (b := c) (x := rs) hj)
                  go_wp2
                  go_roundw
                  case rel => exact ⟨t + 1, by omega, by rw [HI1.out, HC2.out], by rw [HI2.out, HR2.out], by go_num, hbq⟩
                  case measure => simp [intOf]; omega
            · as_aux_lemma =>
              obtain rfl : E = t := by omega
              clear HJ HNM HC1 HR1 HNE
              have hsm := (HSM.out E (Nat.le_refl _))
              rw [g1]
              generalize RS E = re at *
              clear HSM g1 hr0 hc0
              go_upto_region 17 with (fail)
              go_cut [110] (fun p wx => p = .bool false ∧ Below wr.heap.size wr wx)
              case first =>
                as_aux_lemma =>
                have d1 : decide (re < (k : Int)) = false := decide_eq_false (by omega)
                have d2 : decide ((k : Int) < (E : Int)) = false := decide_eq_false (by omega)
                have d4 : decide (k < E) = false := decide_eq_false (by omega)
                by_cases hk0 : k = 0
                · have d3 : E = 0 := g4.2 hk0
                  subst hk0 d3
                  go_wp2
                  go_meet
                  exact ⟨by first | rfl | (simp [*]; done) | (simp [*]; omega), Below.refl _ _⟩
                · have d3 : ¬ E = 0 := fun e => hk0 (g4.1 e)
                  have d5 : ((E : Int) == 0) = false := by rw [beq_eq_false_iff_ne]; omega
                  have d6 : ((k : Int) == 0) = false := by rw [beq_eq_false_iff_ne]; omega
                  go_wp2
                  go_meet
                  exact ⟨by first | rfl | (simp [*]; done) | (simp [*]; omega), Below.refl _ _⟩
              case rest =>
                as_aux_lemma =>
                obtain ⟨rfl, hbc⟩ := hcut
                have hbd := kept_trans hbt hbc
                clear hbt hbc g2 g3 g4 hsm
                go_wp2
                go_loopw [14] (fun i wq => ∃ q : Nat, q ≤ m ∧ i = .int .i64 q ∧ Below w2.heap.size w2 wq) (fun i _ => m - (intOf i).toNat)
                case atStart => exact ⟨0, by omega, rfl, hbd⟩
                case round =>
                  clear hbd
                  obtain ⟨q, hqm, rfl, hbq⟩ := hrel
                  by_cases hql : q < m
                  · as_aux_lemma =>
                    obtain ⟨hs2, -, -⟩ := HS2.out _ hbq
                    obtain ⟨-, lo', lc', el, hlr⟩ := hs2
                    simp only [Value.slice.injEq] at el
                    obtain ⟨rfl, -, rfl⟩ := el
                    rcases hlr with hh | ⟨gl, ol, rfl, hlr⟩
                    · omega
                    obtain ⟨x0, x1, x2, x3⟩ := gccells hlr (e := q) hql
                    have hfb := (HFB.out q hql).1
                    have hsg := HSG.out q hql
                    have hqm2 : (q : Int) < m := by omega
                    generalize b q = bq at *
                    have hoc := one_cost hk40 hfb
                    have d1 : decide ((k : Int) * bq < L0) = false := decide_eq_false (by omega)
                    clear x0 x2 x3
                    go_wp2
                    go_roundw
                    case rel => exact ⟨q + 1, by omega, by go_num, hbq⟩
                    case measure => simp [intOf]; omega
                  · as_aux_lemma =>
                    by_cases hk0 : k = 0
                    · have hk1 : (k : Int) ≤ 0 := by omega
                      have hk2 : ¬ 0 < k := by omega
                      go_wp2
                      go_meet
                      exact hbq
                    · as_aux_lemma =>
                      obtain ⟨r0', M', r2', hA', hMl'⟩ := ch_ex m a b c d (k - 1) (fun i => z (i + 1))
                      obtain ⟨hr2', hr0'⟩ := HLS.out (k - 1) (by omega) _ _ _ hA'
                      subst hr2'
                      obtain ⟨hs2, hrw2, -⟩ := HS2.out _ hbq
                      have hgt := hrw2.1
                      have HSC : Hid (∀ o cq, (o = 1 ∨ k - 1 = 0) → k - 1 ≤ cq → cq ≤ cp → Calls Tryz.prog 7 #[.slice lo m lc, .slice (some ⟨gt, o, none⟩) (k - 1) cq] wr (ChPost r0' M' 0 wr)) := fun o cq ho h1 h2 => by
                        refine s_CheapestFares (.slice lo m lc) m a b c d gt o (k - 1) cq _ r0' M' 0 hA' wr hs2 (by omega) ⟨h1, by omega⟩ ?_ hx
                        rcases ho with rfl | hn0
                        · have h3 := hrw2.sub (a := 1) (m := k - 1) (by omega)
                          rw [Nat.zero_add] at h3
                          exact h3.congr fun i hi => by simp only [ic]; rw [Nat.add_comm 1 i]
                        · rw [hn0]
                          exact ⟨hgt, fun i hi => by omega⟩
                      have HSC0 : k - 1 = 0 → Calls Tryz.prog 7 #[.slice lo m lc, .slice (some ⟨gt, 0, none⟩) 0 0] wr (ChPost r0' M' 0 wr) := fun e1 => by
                        have := HSC.out 0 0 (.inr e1) (by omega) (by omega)
                        rw [e1] at this
                        exact this
                      unfold ChPost at HSC HSC0
                      have hk1 : (0 : Int) < k := by omega
                      have hk2 : 0 < k := by omega
                      have hk3 : (1 : Int) ≤ k := by omega
                      have hk4 : 1 ≤ cp := by omega
                      have d1 : decide (L0 < r0') = false := decide_eq_false (by omega)
                      clear HLS hA' hs2 hrw2
                      by_cases hc1 : cp = 1
                      · have hk5 : k - 1 = 0 := by omega
                        have hk6 : cp - 1 = 0 := by omega
                        have HSC1 := Lib.hid (HSC0 hk5)
                        have hk7 : (cp = 1) = True := eq_true hc1
                        clear HSC0 HSC hc1
                        go_wp2_with (go_at_call 7; go_loud (refine HSC1.out.mono ?_; rintro e w8 ⟨g8, rfl, hb8, hog8⟩))
                        go_meet
                        exact kept_trans hbq hb8
                      · go_wp2_with (go_at_call 7; go_loud (refine (HSC.out 1 (cp - 1) (.inl rfl) (by omega) (by omega)).mono ?_; rintro e w8 ⟨g8, rfl, hb8, hog8⟩))
                        go_meet
                        exact kept_trans hbq hb8
        · as_aux_lemma =>
          obtain ⟨rfl, rfl⟩ := ch_bad HA.out h0
          simp only [List.length_nil] at hE
          subst hE
          go_wp2
          go_meet
          exact Below.refl _ _
      case rest =>
        as_aux_lemma =>
        have hb3 := kept_trans (kept_trans hb1 hb2) hcut
        have HDB := Lib.hid (HD2.out _ hb3)
        clear HA HS2 hx hcut hE hMl HD2
        go_upto_region 31 with (go_at_call 8; go_loud (refine HDB.out.mono ?_; rintro e w4 ⟨vl, j, fa, fb, fc, fd, x, y, rfl, hj9, hb4, hsl4, hsh4⟩))
        have HBE := Lib.hid (i_BreakEven vl j fa fb fc fd x y w4 hsl4 (Lib.hid (fun i hi => by have := hsh4 i hi; omega)))
        obtain ⟨-, fo, fcp, rfl, -⟩ := id hsl4
        obtain ⟨N, hN⟩ : ∃ N, (beAll j fa fb fc fd x y).1 = N := ⟨_, rfl⟩
        obtain ⟨r3, hr3⟩ : ∃ r3, (beAll j fa fb fc fd x y).2 = r3 := ⟨_, rfl⟩
        rw [hN, hr3] at HBE
        have K4 := kept_trans hb3 hb4
        clear hb3 hb4 HDB hsh4
        go_upto_region 32 with (go_at_call 9; refine HBE.out.mono ?_; rintro e w5 ⟨rfl, hb5⟩)
        have K5 := kept_trans K4 hb5
        have hs5 := hsl4.kept hb5
        clear HBE K4 hb5 hsl4
        by_cases h0 : r3 = 0
        · subst h0
          obtain ⟨hv, hN1, hN2, hlaw⟩ := be_ok hr3
          rw [hN] at hN1 hN2 hlaw
          have HFB := Lib.hid (vFares_FB hv).2
          have HLAW := Lib.hid hlaw
          have HS5 : Hid (∀ w, Below w5.heap.size w5 w → Sl w (.slice fo j fcp) 4 j (gc fa fb fc fd)) := fun w h => hs5.kept h
          have HR := Lib.hid (fun w (h : Below w5.heap.size w5 w) => HD3.out w (kept_trans K5 h))
          have HTB := Lib.hid (fun w (h : Below w5.heap.size w5 w) => HT.out w (kept_trans K5 h))
          clear hv hlaw hN hr3 hs5 HD3 HT
          obtain ⟨n, rfl⟩ : ∃ n : Nat, N = n := ⟨N.toNat, by omega⟩
          go_wp2
          go_loopw [23] (fun i wr => ∃ t : Nat, t ≤ j ∧ i = .int .i64 t ∧ Below w5.heap.size w5 wr) (fun i _ => j - (intOf i).toNat)
          case atStart => exact ⟨0, by omega, rfl, Below.refl _ _⟩
          case round =>
            obtain ⟨t, htj, rfl, hbt⟩ := hrel
            by_cases hlt : t < j
            · as_aux_lemma =>
              have htj2 : (t : Int) < j := by omega
              go_wp2
              go_loopw [24] (fun i wq => ∃ q : Nat, q ≤ j ∧ i = .int .i64 q ∧ Below w5.heap.size w5 wq) (fun i _ => j - (intOf i).toNat)
              case atStart => exact ⟨0, by omega, rfl, hbt⟩
              case round =>
                clear hbt
                obtain ⟨q, hqj, rfl, hbq⟩ := hrel
                by_cases hql : q < j
                · as_aux_lemma =>
                  have hqj2 : (q : Int) < j := by omega
                  obtain ⟨-, fo', fc', el, hlr⟩ := HS5.out _ hbq
                  simp only [Value.slice.injEq] at el
                  obtain ⟨rfl, -, rfl⟩ := el
                  rcases hlr with hh | ⟨gl, ol, rfl, hlr⟩
                  · omega
                  obtain ⟨x0, x1, x2, x3⟩ := gccells hlr (e := t) hlt
                  obtain ⟨y0, y1, y2, y3⟩ := gccells hlr (e := q) hql
                  have fb1 := HFB.out t hlt
                  have fb2 := HFB.out q hql
                  have LAW := Lib.hid (HLAW.out t q hlt hql)
                  generalize fa t = a1 at *
                  generalize fb t = b1 at *
                  generalize fc t = c1 at *
                  generalize fd t = d1 at *
                  generalize fa q = a2 at *
                  generalize fb q = b2 at *
                  generalize fc q = c2 at *
                  generalize fd q = d2 at *
                  clear HFB HLAW
                  by_cases he1 : a1.toList = x.toList
                  · by_cases he2 : a2.toList = y.toList
                    · as_aux_lemma =>
                      obtain ⟨l1, l2, l3⟩ := LAW.out he1 he2
                      obtain ⟨Q1, q1, q2, q3, q4⟩ := be_bdR (k := n) (ac := b1) (ar := c1) (by omega) fb1.1 fb1.2.1
                      obtain ⟨Q2, r1, r2, r3', r4⟩ := be_bdR (k := (n : Int) - 1) (ac := b1) (ar := c1) (by omega) fb1.1 fb1.2.1
                      rw [q1] at l2
                      rw [r1] at l3
                      have e1 : (a1.toList == x.toList) = true := by simpa using he1
                      have e2 : (a2.toList == y.toList) = true := by simpa using he2
                      have K1 := kept_alloc (Below.refl wr.heap.size wr) (.cells #[.string a1, .int .i64 b1, .int .i64 c1, .int .i64 d1] 32)
                      have z0 := cell_keep K1 y0
                      have z1 := cell_keep K1 y1
                      have z2 := cell_keep K1 y2
                      have z3 := cell_keep K1 y3
                      have K2 := kept_trans hbq (kept_alloc K1 (.cells #[.string a2, .int .i64 b2, .int .i64 c2, .int .i64 d2] 32))
                      clear LAW he1 he2 q1 r1 K1
                      go_upto_region 43 with (fail)
                      have m1 : ((wr.alloc (.cells #[.string a1, .int .i64 b1, .int .i64 c1, .int .i64 d1] 32)).alloc (.cells #[.string a2, .int .i64 b2, .int .i64 c2, .int .i64 d2] 32)).cell? ⟨wr.heap.size, 1, none⟩ = some (.int .i64 b1) := cell_keep (kept_alloc (Below.refl _ _) _) (boxed_at rfl rfl)
                      have m2 : ((wr.alloc (.cells #[.string a1, .int .i64 b1, .int .i64 c1, .int .i64 d1] 32)).alloc (.cells #[.string a2, .int .i64 b2, .int .i64 c2, .int .i64 d2] 32)).cell? ⟨wr.heap.size, 2, none⟩ = some (.int .i64 c1) := cell_keep (kept_alloc (Below.refl _ _) _) (boxed_at rfl rfl)
                      have m3 : ((wr.alloc (.cells #[.string a1, .int .i64 b1, .int .i64 c1, .int .i64 d1] 32)).alloc (.cells #[.string a2, .int .i64 b2, .int .i64 c2, .int .i64 d2] 32)).cell? ⟨wr.heap.size + 1, 1, none⟩ = some (.int .i64 b2) := boxed_at (by simp) rfl
                      have m4 : ((wr.alloc (.cells #[.string a1, .int .i64 b1, .int .i64 c1, .int .i64 d1] 32)).alloc (.cells #[.string a2, .int .i64 b2, .int .i64 c2, .int .i64 d2] 32)).cell? ⟨wr.heap.size + 1, 2, none⟩ = some (.int .i64 c2) := boxed_at (by simp) rfl
                      generalize (wr.alloc (.cells #[.string a1, .int .i64 b1, .int .i64 c1, .int .i64 d1] 32)).alloc (.cells #[.string a2, .int .i64 b2, .int .i64 c2, .int .i64 d2] 32) = wz at *
                      have hcc : 1 ≤ c1 ∧ c1 ≤ 1000 := fb1.2.1
                      clear z0 z1 z2 z3 x0 x1 x2 x3 y0 y1 y2 y3 hbq hlr fb1 fb2
                      generalize wr.heap.size = gz at *
                      go_cut [251] (fun p wx => p = .bool false ∧ Below wz.heap.size wz wx)
                      case first =>
                        as_aux_lemma =>
                        have g1 : decide ((n : Int) < 1) = false := decide_eq_false (by omega)
                        have g2 : decide (c2 < (n : Int)) = false := decide_eq_false (by omega)
                        have g3 : decide (Q1 * b1 ≤ b2) = false := decide_eq_false (by omega)
                        have g5 : max 1 c1 = c1 := by omega
                        have g6 : (c1 == 0) = false := by rw [beq_eq_false_iff_ne]; omega
                        have g7 : decide (c1 = 0) = false := decide_eq_false (by omega)
                        have v1 : IntKind.i64.wrap ((n : Int) + c1) = n + c1 := IntWalk.i64_in _ (by omega)
                        have v2 : IntKind.i64.wrap ((n : Int) + c1 - 1) = n + c1 - 1 := IntWalk.i64_in _ (by omega)
                        have v3 : IntKind.i64.wrap Q1 = Q1 := IntWalk.i64_in _ (by omega)
                        have v4 : IntKind.i64.wrap (Q1 * b1) = Q1 * b1 := IntWalk.i64_in _ (by omega)
                        have v5 : IntKind.i64.wrap ((n : Int) - 1) = n - 1 := IntWalk.i64_in _ (by omega)
                        have v6 : IntKind.i64.wrap ((n : Int) - 1 + c1) = n - 1 + c1 := IntWalk.i64_in _ (by omega)
                        have v7 : IntKind.i64.wrap ((n : Int) - 1 + c1 - 1) = n - 1 + c1 - 1 := IntWalk.i64_in _ (by omega)
                        have v8 : IntKind.i64.wrap Q2 = Q2 := IntWalk.i64_in _ (by omega)
                        have v9 : IntKind.i64.wrap (Q2 * b1) = Q2 * b1 := IntWalk.i64_in _ (by omega)
                        clear K2
                        by_cases hn : (1 : Int) < n
                        · have l4 := l3 hn
                          have g4 : decide (b2 < Q2 * b1) = false := decide_eq_false (by omega)
                          have g8 : decide ((1 : Int) < n) = true := decide_eq_true hn
                          clear l3
                          go_wp2_with fail
                          go_quiet (fail)
                          clear v1 v2 v3 v4 v5 v6 v7 v8 v9 g5 g6 g7
                          go_wp2_with fail
                          go_meet
                          exact ⟨by first | rfl | (simp [*]; done) | (simp [*]; omega), kept_drewN (Below.refl _ _) _⟩
                        · have g8 : decide ((1 : Int) < n) = false := decide_eq_false hn
                          clear l3
                          go_wp2_with fail
                          go_quiet (fail)
                          clear v1 v2 v3 v4 v5 v6 v7 v8 v9 g5 g6 g7
                          go_wp2_with fail
                          go_meet
                          exact ⟨by first | rfl | (simp [*]; done) | (simp [*]; omega), kept_drewN (Below.refl _ _) _⟩
                      case rest =>
                        as_aux_lemma =>
                        obtain ⟨rfl, hbz⟩ := hcut
                        go_wp2
                        go_roundw
                        case rel => exact ⟨q + 1, by omega, by go_num, kept_trans K2 hbz⟩
                        case measure => simp [intOf]; omega
                    · as_aux_lemma =>
                      have e1 : (a1.toList == x.toList) = true := by simpa using he1
                      have e2 : (a2.toList == y.toList) = false := beq_eq_false_iff_ne.2 he2
                      clear LAW he1 he2
                      go_wp2
                      go_roundw
                      case rel => exact ⟨q + 1, by omega, by go_num, hbq⟩
                      case measure => simp [intOf]; omega
                  · as_aux_lemma =>
                    have e1 : (a1.toList == x.toList) = false := beq_eq_false_iff_ne.2 he1
                    clear LAW he1
                    go_wp2
                    go_roundw
                    case rel => exact ⟨q + 1, by omega, by go_num, hbq⟩
                    case measure => simp [intOf]; omega
                · as_aux_lemma =>
                  go_wp2
                  go_roundw
                  case rel => exact ⟨t + 1, by omega, by go_num, hbq⟩
                  case measure => simp [intOf]; omega
            · as_aux_lemma =>
              have htj2 : ¬ (t : Int) < j := by omega
              have HRD := Lib.hid (HR.out _ hbt)
              go_upto_region 45 with (fail)
              go_upto_region 46 with (go_at_call 10; go_loud (refine HRD.out.mono ?_; rintro e w6 ⟨s, rfl, hs6, hb6⟩))
              have K6 := kept_trans hbt hb6
              have HRF := Lib.hid (i_ReadFare s w6 hs6 (HTB.out _ K6))
              clear HRD HR HFB HLAW HS5 hbt hb6
              go_upto_region 47 with (go_at_call 11; refine HRF.out.mono ?_; rintro e w7 ⟨rfl, hb7⟩)
              have K7 := kept_alloc (kept_trans K6 hb7) (.cells #[.string (rfA s), .int .i64 (rfV s 0), .int .i64 (rfV s 1), .int .i64 (rfV s 2)] 32)
              have HFT : Hid (rfOk s = true → Calls Tryz.prog 12 #[.agg #[.string (rfA s), .int .i64 (rfV s 0), .int .i64 (rfV s 1), .int .i64 (rfV s 2)]] (w7.alloc (.cells #[.string (rfA s), .int .i64 (rfV s 0), .int .i64 (rfV s 1), .int .i64 (rfV s 2)] 32)) fun e W' => e = .returned (.string s) ∧ Below (w7.alloc (.cells #[.string (rfA s), .int .i64 (rfV s 0), .int .i64 (rfV s 1), .int .i64 (rfV s 2)] 32)).heap.size (w7.alloc (.cells #[.string (rfA s), .int .i64 (rfV s 0), .int .i64 (rfV s 1), .int .i64 (rfV s 2)] 32)) W') := fun h => by
                have h1 := fare_same h
                have h2 := i_FareText (rfA s) (rfV s 0) (rfV s 1) (rfV s 2) _ (by rw [h1.2]; have := (nm_size s hs6).1; omega) (HTB.out _ K7).1
                rw [h1.1] at h2
                exact h2
              have KK := kept_trans K5 K7
              have q0 : (w7.alloc (.cells #[.string (rfA s), .int .i64 (rfV s 0), .int .i64 (rfV s 1), .int .i64 (rfV s 2)] 32)).cell? ⟨w7.heap.size, 0, none⟩ = some (.string (rfA s)) := boxed_at rfl rfl
              have q1 : (w7.alloc (.cells #[.string (rfA s), .int .i64 (rfV s 0), .int .i64 (rfV s 1), .int .i64 (rfV s 2)] 32)).cell? ⟨w7.heap.size, 1, none⟩ = some (.int .i64 (rfV s 0)) := boxed_at rfl rfl
              have q2 : (w7.alloc (.cells #[.string (rfA s), .int .i64 (rfV s 0), .int .i64 (rfV s 1), .int .i64 (rfV s 2)] 32)).cell? ⟨w7.heap.size, 2, none⟩ = some (.int .i64 (rfV s 1)) := boxed_at rfl rfl
              have q3 : (w7.alloc (.cells #[.string (rfA s), .int .i64 (rfV s 0), .int .i64 (rfV s 1), .int .i64 (rfV s 2)] 32)).cell? ⟨w7.heap.size, 3, none⟩ = some (.int .i64 (rfV s 2)) := boxed_at rfl rfl
              have hn0 : decide ((0 : Int) < n) = true := decide_eq_true (by omega)
              clear HRF HTB K5 K6 K7 hb7 hs6
              generalize w7.alloc (.cells #[.string (rfA s), .int .i64 (rfV s 0), .int .i64 (rfV s 1), .int .i64 (rfV s 2)] 32) = w8 at *
              generalize w7.heap.size = g7 at *
              generalize rfA s = sa at *
              generalize rfV s 0 = v0 at *
              generalize rfV s 1 = v1 at *
              generalize rfV s 2 = v2 at *
              generalize rfOk s = ok at *
              cases ok
              · as_aux_lemma =>
                clear HFT
                go_wp2
                go_ret
                exact ⟨rfl, KK⟩
              · as_aux_lemma =>
                have HF := Lib.hid (HFT.out rfl)
                clear HFT
                go_wp2_with (go_at_call 12; refine HF.out.mono ?_; rintro e w9 ⟨rfl, hb9⟩)
                go_ret
                exact ⟨rfl, kept_trans KK hb9⟩
        · have hN0 : N = 0 := by rw [← hN]; exact be_bad (by rw [hr3]; exact h0)
          subst hN0
          clear hN hr3 hs5 HD3 HT
          go_wp2
          go_ret
          exact ⟨rfl, K5⟩
    · rw [decide_eq_false hl2] at HL2
      obtain ⟨-, aoa, capa, rfl, -⟩ := ha
      obtain ⟨-, aob, capb, rfl, -⟩ := hb
      clear hl1 hl2 htab
      go_enter Tryz.func3, Tryz.ntmps3
      go_wp2_with (first
        | (go_at_call 4; have _two := tok1; refine HL2.out.mono ?_; rintro e w0 ⟨rfl, rfl⟩)
        | (go_at_call 4; refine HL1.out.mono ?_; rintro e w0 ⟨rfl, rfl⟩; have tok1 : True := trivial))
      go_ret
      exact ⟨rfl, Below.refl _ _⟩
  · rw [decide_eq_false hl1] at HL1
    obtain ⟨-, aoa, capa, rfl, -⟩ := ha
    obtain ⟨-, aob, capb, rfl, -⟩ := hb
    clear hl1 htab HL2
    go_enter Tryz.func3, Tryz.ntmps3
    go_wp2_with (go_at_call 4; refine HL1.out.mono ?_; rintro e w0 ⟨rfl, rfl⟩)
    go_ret
    exact ⟨rfl, Below.refl _ _⟩

end Go.Proofs.YtjmklkhdemolmaaGreatDoor
