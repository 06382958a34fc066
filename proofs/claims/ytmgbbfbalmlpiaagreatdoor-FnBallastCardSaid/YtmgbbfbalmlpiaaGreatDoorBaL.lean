/- The law on ballast: the walk. -/
import Derived.Test.YtmgbbfbalmlpiaaGreatDoorBaR
import Derived.Test.YtmgbbfbalmlpiaaGreatDoorB10
import Derived.Test.YtmgbbfbalmlpiaaGreatDoorDrawW
import Derived.Test.YtmgbbfbalmlpiaaGreatDoorDrawU
import Derived.Deep.DeepCutAuto
import Derived.Deep.QuietTactic
import Derived.BigQuiet
namespace Go.Proofs.YtmgbbfbalmlpiaaGreatDoor
open Go.RowKit Go.Deep
set_option linter.unusedVariables false
set_option maxRecDepth 100000

theorem sec_bd {sec r n : Int} (h1 : 0 ≤ sec ∧ sec ≤ 20000) (h2 : 1 ≤ r ∧ r ≤ 1000) : (0 ≤ sec * r ∧ sec * r ≤ 20000000) ∧ (-1000 ≤ (sec - 1) * r ∧ (sec - 1) * r ≤ 20000000) := by
  have a1 : 0 ≤ sec * r := Int.mul_nonneg h1.1 (by omega)
  have a2 : sec * r ≤ 20000 * 1000 := Int.mul_le_mul h1.2 h2.2 (by omega) (by omega)
  rw [Int.sub_mul]
  omega

set_option maxHeartbeats 80000000 in
theorem l_Ballast {W : World} (va : Value) (na : Nat) (ha : ByS W va na) (vb : Value) (nb : Nat) (hb : ByS W vb nb) (htab : TabM W) : Calls Tryz.prog 3 #[va, vb] W (Truly W) := by
  unfold Truly
  have HL1 := Lib.hid (l_b10Long va na W ha)
  have HL2 := Lib.hid (l_b10Long vb nb W hb)
  by_cases hl1 : na ≤ 1048576
  · rw [decide_eq_true hl1] at HL1
    by_cases hl2 : nb ≤ 1048576
    · rw [decide_eq_true hl2] at HL2
      have HD := Lib.hid (s_DrawWaterFor va na W ha hl1)
      have HD2 : Hid (∀ w, Below W.heap.size W w → Calls Tryz.prog 9 #[vb] w fun e w' => ∃ (t r s p rp gr nd : Int) (x y : Value) (j m : Nat) (a b : Nat → Int), e = .returned (.tuple #[.agg #[.int .i64 t, .int .i64 r, .int .i64 s, .int .i64 p], x, y, .int .i64 rp, .int .i64 gr, .int .i64 nd]) ∧ (j ≤ 30 ∧ m ≤ 30) ∧ Below w.heap.size w w' ∧ Sl w' x 1 j (ic a) ∧ Sl w' y 1 m (ic b)) := fun w h => s_DrawTripWaters vb nb w (hb.kept h) hl2
      have HT : Hid (∀ w, Below W.heap.size W w → TabM w) := fun w h => htab.kept h
      obtain ⟨-, aoa, capa, rfl, -⟩ := ha
      obtain ⟨-, aob, capb, rfl, -⟩ := hb
      clear hl1 hl2 htab
      go_enter Tryz.func3, Tryz.ntmps3
      go_upto_region 4 with (first
        | (go_at_call 4; have _two := tok1; refine HL2.out.mono ?_; rintro e w0 ⟨rfl, rfl⟩)
        | (go_at_call 4; refine HL1.out.mono ?_; rintro e w0 ⟨rfl, rfl⟩; have tok1 : True := trivial)
        | (go_at_call 5; refine HD.out.mono ?_; rintro e w1 ⟨t, r, s, p, tp, bt, rp, gr, nd, rfl, hbd, hb1⟩))
      have KB := kept_alloc hb1 (.cells #[.int .i64 t, .int .i64 r, .int .i64 s, .int .i64 p] 25)
      have rB := BoxAt.new w1 (.int .i64 t) (.int .i64 r) (.int .i64 s) (.int .i64 p) 25
      generalize w1.heap.size = bx at *
      generalize w1.alloc (.cells #[.int .i64 t, .int .i64 r, .int .i64 s, .int .i64 p] 25) = wB at *
      clear hb1 HL1 HL2 HD
      have HW := Lib.hid (fun w => i_WaterFor t r s p tp bt rp gr nd w)
      have HNO := Lib.hid (water_no (t := t) (r := r) (s := s) (p := p) (tp := tp) (bt := bt) (rp := rp) (gr := gr) (nd := nd))
      have HOK := Lib.hid (water_ok (t := t) (r := r) (s := s) (p := p) (tp := tp) (bt := bt) (rp := rp) (gr := gr) (nd := nd))
      generalize (wfor t r s p tp bt rp gr nd).1 = nn at *
      generalize (wfor t r s p tp bt rp gr nd).2 = cc at *
      obtain ⟨-, q0, q1, q2, q3, -⟩ := id rB
      go_upto_if 58 with (go_at_call 6; refine (HW.out _).mono ?_; rintro e w2 ⟨rfl, hb2⟩)
      have rB2 := rB.kept hb2
      clear q0 q1 q2 q3
      go_cut [] (fun wx => Below w2.heap.size w2 wx)
      case first =>
        by_cases h0 : cc = 0
        · as_aux_lemma =>
          have hok := HOK.out h0
          subst h0
          obtain ⟨hv, h3, ⟨hn0, hnt⟩, hge, hlt⟩ := hok
          have hvb := vBasin_out hv
          obtain ⟨f1, f2, f3, f4, f5⟩ := fill_ok (n := nn) hv ⟨hn0, hnt⟩
          have HF := Lib.hid (fun w => i_FillSeconds t r s p nn w)
          rw [f1] at HF
          generalize (fillS t r s p nn).1 = sec at *
          obtain ⟨⟨m1, m2⟩, m3, m4⟩ := sec_bd (n := nn) ⟨f4, f5⟩ ⟨hvb.2.2.1, hvb.2.2.2.1⟩
          have HP := Lib.hid (fun x w => i_PullDown x bt rp gr w)
          have HPA := Lib.hid (fun x => pull_at (tp := x) h3)
          obtain ⟨-, q0, q1, q2, q3, -⟩ := id rB2
          go_upto_region 7 with (go_at_call 7; refine (HF.out _).mono ?_; rintro e w3 ⟨rfl, hb3⟩)
          clear q0 q1 q2 q3
          obtain ⟨-, q0, q1, q2, q3, -⟩ := id (rB2.kept hb3)
          go_cut [97] (fun p wx => p = .bool false ∧ Below w3.heap.size w3 wx)
          case first =>
            as_aux_lemma =>
            by_cases hs : 0 < sec
            · have f3' := f3 hs
              clear f3 hge hlt HP HPA HF HOK HNO HW
              go_wp2
              go_meet
              exact ⟨by first | rfl | (simp [*]; done) | (simp [*]; omega), Below.refl _ _⟩
            · clear f3 hge hlt HP HPA HF HOK HNO HW
              go_wp2
              go_meet
              exact ⟨by first | rfl | (simp [*]; done) | (simp [*]; omega), Below.refl _ _⟩
          case rest =>
            as_aux_lemma =>
            obtain ⟨rfl, hbc⟩ := hcut
            have K3 := kept_trans hb3 hbc
            clear q0 q1 q2 q3 f1 f2 f3 m1 m2 m3 m4 HF HOK HNO HW hb3 hbc
            have HP1 := Lib.hid (fun w => HP.out (tp + nn) w)
            have HQ1 : Hid (((pull (tp + nn) bt rp gr).2 = 0 ∧ nd ≤ (pull (tp + nn) bt rp gr).1) ∨ (pull (tp + nn) bt rp gr).2 = 2) := by
              rcases HPA.out (tp + nn) with ⟨e1, h1⟩ | e1
              · rw [e1]; exact .inl ⟨rfl, hge⟩
              · rw [e1]; exact .inr rfl
            have HP2 := Lib.hid (fun w => HP.out (tp + nn - 1) w)
            have HQ2 : Hid (0 < nn → ((pull (tp + nn - 1) bt rp gr).2 = 0 ∧ (pull (tp + nn - 1) bt rp gr).1 < nd) ∨ (pull (tp + nn - 1) bt rp gr).2 = 2) := fun h => by
              rcases HPA.out (tp + nn - 1) with ⟨e1, h1⟩ | e1
              · rw [e1]; exact .inl ⟨rfl, hlt h⟩
              · rw [e1]; exact .inr rfl
            clear HP HPA hge hlt
            generalize (pull (tp + nn) bt rp gr).1 = pv at *
            generalize (pull (tp + nn) bt rp gr).2 = pc at *
            generalize (pull (tp + nn - 1) bt rp gr).1 = lv at *
            generalize (pull (tp + nn - 1) bt rp gr).2 = lc at *
            go_upto_region 10 with (go_at_call 8; refine (HP1.out _).mono ?_; rintro e w4 ⟨rfl, hb4⟩)
            go_cut [114] (fun p wx => p = .bool false ∧ Below w4.heap.size w4 wx)
            case first =>
              as_aux_lemma =>
              rcases HQ1.out with ⟨h1, h2⟩ | h1
              · subst h1
                go_wp2
                go_meet
                exact ⟨by first | rfl | (simp [*]; done) | (simp [*]; omega), Below.refl _ _⟩
              · subst h1
                go_wp2
                go_meet
                exact ⟨by first | rfl | (simp [*]; done) | (simp [*]; omega), Below.refl _ _⟩
            case rest =>
              as_aux_lemma =>
              obtain ⟨rfl, hbd2⟩ := hcut
              have K4 := kept_trans (kept_trans K3 hb4) hbd2
              clear K3 hb4 hbd2 HQ1 HP1
              by_cases hn : 0 < nn
              · have hq := HQ2.out hn
                clear HQ2
                go_upto_region 14 with (go_at_call 8; refine (HP2.out _).mono ?_; rintro e w5 ⟨rfl, hb5⟩)
                rcases hq with ⟨h1, h2⟩ | h1
                · subst h1
                  go_wp2
                  go_meet
                  exact kept_trans K4 hb5
                · subst h1
                  go_wp2
                  go_meet
                  exact kept_trans K4 hb5
              · clear HQ2
                go_wp2
                go_meet
                exact K4
        · as_aux_lemma =>
          have hn := HNO.out h0
          subst hn
          go_wp2
          go_meet
          exact Below.refl _ _
      case rest =>
        as_aux_lemma =>
        clear HNO HOK HW rB2
        have K2 := kept_trans (kept_trans KB hb2) hcut
        clear KB hb2 hcut rB
        go_upto_region 19 with (go_at_call 9; refine (HD2.out _ K2).mono ?_; rintro e w6 ⟨ct, cr, cs, cp, crp, cgr, cnd, x, y, j, m, a, b, rfl, hjm, hb6, hx, hy⟩; have hx2 := hx; have hy2 := hy; obtain ⟨-, xo, xc, rfl, -⟩ := hx2; obtain ⟨-, yo, yc, rfl, -⟩ := hy2)
        have hxC := hx.kept (kept_alloc (Below.refl w6.heap.size w6) (.cells #[.int .i64 ct, .int .i64 cr, .int .i64 cs, .int .i64 cp] 25))
        have hyC := hy.kept (kept_alloc (Below.refl w6.heap.size w6) (.cells #[.int .i64 ct, .int .i64 cr, .int .i64 cs, .int .i64 cp] 25))
        have KC := kept_alloc (kept_trans K2 hb6) (.cells #[.int .i64 ct, .int .i64 cr, .int .i64 cs, .int .i64 cp] 25)
        have rC := BoxAt.new w6 (.int .i64 ct) (.int .i64 cr) (.int .i64 cs) (.int .i64 cp) 25
        generalize w6.heap.size = by6 at *
        generalize w6.alloc (.cells #[.int .i64 ct, .int .i64 cr, .int .i64 cs, .int .i64 cp] 25) = wC at *
        clear hb6 hx hy K2 HD2
        have HTw := Lib.hid (i_TripWaters ct cr cs cp _ j a _ m b crp cgr cnd wC hxC hyC)
        unfold TwPost at HTw
        have hn1b : (twRes ct cr cs cp j a m b crp cgr cnd).1 ≤ 17592186044416 := twRes_le (by omega)
        have HBAD := Lib.hid (trips_bad (t := ct) (r := cr) (s := cs) (p := cp) (n := j) (a := a) (m := m) (b := b) (rp := crp) (gr := cgr) (nd := cnd))
        have HTOK := Lib.hid (trips_ok (t := ct) (r := cr) (s := cs) (p := cp) (n := j) (a := a) (m := m) (b := b) (rp := crp) (gr := cgr) (nd := cnd))
        generalize (twRes ct cr cs cp j a m b crp cgr cnd).1 = n1 at *
        generalize (twRes ct cr cs cp j a m b crp cgr cnd).2 = c2 at *
        generalize twF ct a b crp cgr cnd = F at *
        obtain ⟨-, q0, q1, q2, q3, -⟩ := id rC
        go_upto_region 20 with (go_at_call 10; refine HTw.out.mono ?_; rintro e w7 ⟨g, rfl, hb7, hog⟩; have hsg := hog.sl hn1b; have hsg2 := hsg; obtain ⟨-, go, gc, rfl, -⟩ := hsg2)
        clear q0 q1 q2 q3 HTw
        have K7 := kept_trans KC hb7
        have r7 := rC.kept hb7
        have hx7 := hxC.kept hb7
        have hy7 := hyC.kept hb7
        clear KC rC hxC hyC hb7 hog
        by_cases h5 : c2 = 0
        · as_aux_lemma =>
          obtain ⟨hv, hmj, hnj, hj24, hwf⟩ := HTOK.out h5
          subst h5
          obtain rfl := hmj.symm
          obtain rfl := hnj.symm
          have HWF := Lib.hid hwf
          clear HBAD HTOK hwf hn1b hjm
          go_wp2
          go_loopw [27] (fun i wr => ∃ k : Nat, k ≤ j ∧ i = .int .i64 k ∧ Below w7.heap.size w7 wr) (fun i _ => j - (intOf i).toNat)
          case atStart => exact ⟨0, by omega, rfl, Below.refl _ _⟩
          case round =>
            obtain ⟨k, hkj, rfl, hbk⟩ := hrel
            by_cases hlt : k < j
            · as_aux_lemma =>
              obtain ⟨-, q0, q1, q2, q3, -⟩ := id (r7.kept hbk)
              obtain ⟨-, xo', xc', ex, hxr⟩ := hx7.kept hbk
              obtain ⟨-, yo', yc', ey, hyr⟩ := hy7.kept hbk
              obtain ⟨-, go', gc', eg, hgr⟩ := hsg.kept hbk
              simp only [Value.slice.injEq] at ex ey eg
              obtain ⟨rfl, -, rfl⟩ := ex
              obtain ⟨rfl, -, rfl⟩ := ey
              obtain ⟨rfl, -, rfl⟩ := eg
              rcases hxr with h0 | ⟨gx, ox, rfl, hxr⟩
              · omega
              rcases hyr with h0 | ⟨gy, oy, rfl, hyr⟩
              · omega
              rcases hgr with h0 | ⟨gg, og, rfl, hgr⟩
              · omega
              have x0 := hxr.cell (i := k) (by omega)
              have y0 := hyr.cell (i := k) (by omega)
              have z0 := hgr.cell (i := k) (by omega)
              simp only [ic] at x0 y0 z0
              have HW6 := Lib.hid (fun w => s_WaterFor ct cr cs cp (a k) (b k) crp cgr cnd w)
              rw [HWF.out k hlt] at HW6
              generalize a k = ak at *
              generalize b k = bk at *
              generalize F k = fk at *
              have k0 := fun dd os => cell_keep (below_regrown wr dd os) q0
              have k1 := fun dd os => cell_keep (below_regrown wr dd os) q1
              have k2 := fun dd os => cell_keep (below_regrown wr dd os) q2
              have k3 := fun dd os => cell_keep (below_regrown wr dd os) q3
              have k4 := fun dd os => cell_keep (below_regrown wr dd os) x0
              have k5 := fun dd os => cell_keep (below_regrown wr dd os) y0
              have Z0 := Lib.hid z0
              have hkn : (k : Int) < j := by omega
              clear q0 q1 q2 q3 x0 y0 z0 hxr hyr hgr hx7 hy7 hsg
              go_wp2_with (fail)
              refine wp_region_quiet_below (by kernel_rfl) (by kernel_rfl) ?_
              repeat (go_big_quiet_step ((first | (go_at_call 11; exact Calls.regrown_of (HW6.out _)))))
              refine wpQuiet_nil ?_
              intro w2 hw2
              have hk := below_of_regrown hw2
              clear hw2 k0 k1 k2 k3 k4 k5
              obtain ⟨hc, hf⟩ := bcell hk
              have hz := hk.size
              try simp at hz
              have z1 := cell_keep hk Z0.out
              go_wp2_with (fail)
              go_roundw
              case rel => exact ⟨k + 1, by omega, by go_num, kept_trans hbk hk⟩
              case measure => simp [intOf]; omega
            · as_aux_lemma =>
              obtain ⟨hok, e0, e1, e2, e3, hsz⟩ := basin_back hv
              have HRB : Hid (∀ w, TabM w → Calls Tryz.prog 12 #[.string (basinS ct cr cs cp)] w fun e W' => e = .returned (.tuple #[.agg #[.int .i64 ct, .int .i64 cr, .int .i64 cs, .int .i64 cp], .bool true]) ∧ Below w.heap.size w W') := fun w h => by
                have := i_ReadBasin (basinS ct cr cs cp) w hsz h
                rw [hok, e0, e1, e2, e3] at this
                exact this
              have HBT := Lib.hid (fun w h => i_BasinText ct cr cs cp w h)
              clear hok e0 e1 e2 e3 hsz
              generalize basinS ct cr cs cp = T at *
              have K8 := kept_trans K7 hbk
              have r8 := r7.kept hbk
              clear hx7 hy7 hsg K7 r7 hbk HWF
              obtain ⟨-, q0, q1, q2, q3, -⟩ := id r8
              go_wp2_with (first
                | (go_at_call 12; refine (HRB.out _ (HT.out _ (kept_trans K8 hb8))).mono ?_; rintro e w9 ⟨rfl, hb9⟩; obtain ⟨-, y0, y1, y2, y3, -⟩ := id (((r8.kept hb8).kept hb9).kept (kept_alloc (Below.refl w9.heap.size w9) (.cells #[.int .i64 ct, .int .i64 cr, .int .i64 cs, .int .i64 cp] 25))))
                | (go_at_call 13; refine (HBT.out _ (HT.out _ K8).1).mono ?_; rintro e w8 ⟨rfl, hb8⟩))
              go_ret
              exact ⟨by first | rfl | (simp [*]; done) | (simp [*]; omega), kept_alloc (kept_trans (kept_trans K8 hb8) hb9) _⟩
        · as_aux_lemma =>
          have hz := HBAD.out h5
          subst hz
          clear HBAD HTOK
          go_wp2
          go_ret
          exact ⟨by first | rfl | (simp [*]; done) | (simp [*]; omega), K7⟩
    · rw [decide_eq_false hl2] at HL2
      obtain ⟨-, aoa, capa, rfl, -⟩ := ha
      obtain ⟨-, aob, capb, rfl, -⟩ := hb
      clear hl1 hl2 htab
      go_enter Tryz.func3, Tryz.ntmps3
      go_wp2_with (first
        | (go_at_call 4; have _two := tok1; refine HL2.out.mono ?_; rintro e w0 ⟨rfl, rfl⟩)
        | (go_at_call 4; refine HL1.out.mono ?_; rintro e w0 ⟨rfl, rfl⟩; have tok1 : True := trivial))
      go_ret
      exact ⟨rfl, Below.refl _ _⟩
  · rw [decide_eq_false hl1] at HL1
    obtain ⟨-, aoa, capa, rfl, -⟩ := ha
    obtain ⟨-, aob, capb, rfl, -⟩ := hb
    clear hl1 htab HL2
    go_enter Tryz.func3, Tryz.ntmps3
    go_wp2_with (go_at_call 4; refine HL1.out.mono ?_; rintro e w0 ⟨rfl, rfl⟩)
    go_ret
    exact ⟨rfl, Below.refl _ _⟩

end Go.Proofs.YtmgbbfbalmlpiaaGreatDoor
