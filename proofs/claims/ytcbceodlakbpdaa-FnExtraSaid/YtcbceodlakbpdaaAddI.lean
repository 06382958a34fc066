/- The program's AddRide. -/
import Derived.Test.YtcbceodlakbpdaaIns
import Derived.Deep.DeepMust
import Derived.Deep.RegionHeld3
namespace Go.Proofs.Ytcbceodlakbpdaa
open Go.RowKit Go.Deep
set_option linter.unusedVariables false

theorem i_AddRide1 (a b l t : Int) (bx : Nat) (W : World) (c0 : W.cell? ⟨bx, 0, none⟩ = some (.int .i64 l)) :
    Calls Try.prog 64 #[.agg #[.int .i64 a, .int .i64 b], .pointer (some ⟨bx, 0, none⟩)] W fun e W' => e = .returned (.bool (decide (l < a))) ∧ Below W.heap.size W W' := by
  have hc2 := cell_kept (kept_alloc (Below.refl W.heap.size W) (.cells #[.int .i64 a, .int .i64 b] 48)) c0
  go_enter Try.func64, Try.ntmps64
  go_wp2
  go_ret
  exact ⟨by simp, (by repeat (first | assumption | exact Below.refl _ _ | refine kept_drew ?_ | refine kept_drewN ?_ _ | refine kept_alloc ?_ _ | refine kept_set ?_ ?_ _ | (simp; done) | (simp; omega) | refine kept_trans ?_ (by assumption)))⟩

/-- The two calls in either order: what Insert wants of the world. -/
theorem insIn_a {W1 w : World} {B n vb : Nat} {lv tk : Nat → Int} {l t : Int} {v : Value} (ho : W1.ownsRow B 48 2 v n (cellsN (rc lv tk) (n * 2))) (hv : v ≠ .slice none 0 0)
    (hw : ∀ i, i < W1.heap.size → w.heap[i]? = W1.heap[i]?) (hb : w.heap[vb]? = some (.cells #[.int .i64 l, .int .i64 t] 48 (0, 0))) (hne : vb < B ∨ W1.heap.size ≤ vb) :
    ∃ g c cur, v = .slice (some ⟨g, 0, none⟩) n c ∧ B ≤ g ∧ g < W1.heap.size ∧ InsIn w g n c vb cur lv tk l t := by
  rcases ho.2 with ⟨h, -⟩ | ⟨g, cap, cur, rfl, hB, hh, hnc, hcm, hcs, ht⟩
  · exact absurd (by rw [h]) hv
  · have hl : g < W1.heap.size := (Array.getElem?_eq_some_iff.1 hh).1
    refine ⟨g, cap, cur, rfl, hB, hl, ⟨(hw g hl).trans hh, hnc, hcm, hcs, fun j hj => ?_, hb, by omega⟩⟩
    have h2 := congrArg (fun L => L[j]?) ht
    simp only [List.getElem?_take, if_pos hj, cellsN_get hj] at h2
    exact h2

set_option maxHeartbeats 1600000 in
theorem i_AddRide (b n cp : Nat) (lv tk : Nat → Int) (l t u : Int) (W : World) (hn : n ≤ 17592186044416) (hcp : n ≤ cp ∧ cp ≤ 9223372036854775807) (hs : Row W b 0 (n * 2) (rc lv tk)) :
    Calls Try.prog 35 #[.slice (some ⟨b, 0, none⟩) n cp, .agg #[.int .i64 l, .int .i64 t], .int .i64 u] W (AddPost n lv tk l t u W) := by
  have hW := kept_alloc (Below.refl W.heap.size W) (.cells #[.int .i64 l, .int .i64 t] 48)
  have HR1 := Lib.hid (hs.kept hW)
  have HS1 : Hid (Sl (W.alloc (.cells #[.int .i64 l, .int .i64 t] 48)) (.slice (some ⟨b, 0, none⟩) n cp) 2 n (rc lv tk)) := Sl.of_row hn HR1.out
  have Q0 := Lib.hid (box2 W (.int .i64 l) (.int .i64 t) 48)
  have HW := Lib.hid hW
  clear hW hs
  have HIX : Hid (∀ w, Sl w (.slice (some ⟨b, 0, none⟩) n cp) 2 n (rc lv tk) → w.cell? ⟨W.heap.size, 0, none⟩ = some (.int .i64 l) → Calls Try.prog 48 #[.slice (some ⟨b, 0, none⟩) n cp, .func (.func 64) #[] #[.pointer (some ⟨W.heap.size, 0, none⟩)]] w fun e W' => e = .returned (.int .i64 (idxTo (fun i => decide (l < lv i)) n)) ∧ Below w.heap.size w W') := fun w h hc =>
    indexFunc_rides 64 #[.pointer (some ⟨W.heap.size, 0, none⟩)] (fun i => decide (l < lv i)) _ n lv tk w h ⟨enters Try.func64 (by kernel_rfl) rfl, fun i _ w hb => i_AddRide1 (lv i) (tk i) l t W.heap.size w (cell_kept hb hc)⟩
  unfold AddPost
  have hbt := @table_bds n lv tk
  rcases add_cases n lv tk l t u with ⟨h1, HF⟩ | ⟨h1, h2, HF⟩ | ⟨h1, h2, h3, HF⟩ | ⟨h1, h2, h3, hbd, h4, HF⟩ | ⟨h1, h2, h3, hbd, h4, hn24, HF⟩ | ⟨h1, h2, h3, hbd, h4, hn24, HF⟩
  · clear hbt
    go_enter Try.func35, Try.ntmps35
    go_wp2_with (first
      | (go_at_call 43; refine (i_ValidTimetable _ n lv tk _ HS1.out).mono ?_; rintro e w1 ⟨rfl, hb1⟩; have x0 := cell_kept hb1 Q0.out.1; have x1 := cell_kept hb1 Q0.out.2; have HB1 : Hid (Below W.heap.size W w1) := kept_trans HW.out hb1; have HS2 := Lib.hid (HS1.out.kept hb1); have HR2 := Lib.hid (HR1.out.kept hb1)))
    refine bodyPost_ret (results_tmp2 rfl _ _ _) rfl ⟨_, by rw [HF.out.1]; rfl, HB1.out, by rw [HF.out.2]; exact Out.nil _ _ _ _ _⟩
  · clear hbt
    go_enter Try.func35, Try.ntmps35
    go_wp2_with (first
      | (go_at_call 43; refine (i_ValidTimetable _ n lv tk _ HS1.out).mono ?_; rintro e w1 ⟨rfl, hb1⟩; have x0 := cell_kept hb1 Q0.out.1; have x1 := cell_kept hb1 Q0.out.2; have HB1 : Hid (Below W.heap.size W w1) := kept_trans HW.out hb1; have HS2 := Lib.hid (HS1.out.kept hb1); have HR2 := Lib.hid (HR1.out.kept hb1))
      | (go_at_call 63; refine (i_validRide l t _).mono ?_; rintro e w2 ⟨rfl, hb2⟩; have y0 := cell_kept hb2 x0; have y1 := cell_kept hb2 x1; have HB2 : Hid (Below W.heap.size W w2) := kept_trans HB1.out hb2; have HS3 := Lib.hid (HS2.out.kept hb2); have HR3 := Lib.hid (HR2.out.kept hb2)))
    refine bodyPost_ret (results_tmp2 rfl _ _ _) rfl ⟨_, by rw [HF.out.1]; rfl, HB2.out, by rw [HF.out.2]; exact Out.nil _ _ _ _ _⟩
  · clear hbt
    go_enter Try.func35, Try.ntmps35
    go_wp2_with (first
      | (go_at_call 43; refine (i_ValidTimetable _ n lv tk _ HS1.out).mono ?_; rintro e w1 ⟨rfl, hb1⟩; have x0 := cell_kept hb1 Q0.out.1; have x1 := cell_kept hb1 Q0.out.2; have HB1 : Hid (Below W.heap.size W w1) := kept_trans HW.out hb1; have HS2 := Lib.hid (HS1.out.kept hb1); have HR2 := Lib.hid (HR1.out.kept hb1))
      | (go_at_call 63; refine (i_validRide l t _).mono ?_; rintro e w2 ⟨rfl, hb2⟩; have y0 := cell_kept hb2 x0; have y1 := cell_kept hb2 x1; have HB2 : Hid (Below W.heap.size W w2) := kept_trans HB1.out hb2; have HS3 := Lib.hid (HS2.out.kept hb2); have HR3 := Lib.hid (HR2.out.kept hb2))
      | (go_at_call 47; refine (i_isDayMinute _ _).mono ?_; rintro e w' ⟨rfl, rfl⟩))
    refine bodyPost_ret (results_tmp2 rfl _ _ _) rfl ⟨_, by rw [HF.out.1]; rfl, HB2.out, by rw [HF.out.2]; exact Out.nil _ _ _ _ _⟩
  · have HBD : Hid (Bds n lv tk) := hbt h1
    clear hbt
    go_enter Try.func35, Try.ntmps35
    go_wp2_with (first
      | (go_at_call 43; refine (i_ValidTimetable _ n lv tk _ HS1.out).mono ?_; rintro e w1 ⟨rfl, hb1⟩; have x0 := cell_kept hb1 Q0.out.1; have x1 := cell_kept hb1 Q0.out.2; have HB1 : Hid (Below W.heap.size W w1) := kept_trans HW.out hb1; have HS2 := Lib.hid (HS1.out.kept hb1); have HR2 := Lib.hid (HR1.out.kept hb1))
      | (go_at_call 63; refine (i_validRide l t _).mono ?_; rintro e w2 ⟨rfl, hb2⟩; have y0 := cell_kept hb2 x0; have y1 := cell_kept hb2 x1; have HB2 : Hid (Below W.heap.size W w2) := kept_trans HB1.out hb2; have HS3 := Lib.hid (HS2.out.kept hb2); have HR3 := Lib.hid (HR2.out.kept hb2))
      | (go_at_call 47; refine (i_isDayMinute _ _).mono ?_; rintro e w' ⟨rfl, rfl⟩)
      | (go_at_call 54; refine (i_hasTurns _ n lv tk l t u _ HS3.out HBD hbd).mono ?_; rintro e w3 ⟨rfl, hb3⟩; have z0 := cell_kept hb3 y0; have z1 := cell_kept hb3 y1; have HB3 : Hid (Below W.heap.size W w3) := kept_trans HB2.out hb3; have HS4 := Lib.hid (HS3.out.kept hb3); have HR4 := Lib.hid (HR3.out.kept hb3)))
    refine bodyPost_ret (results_tmp2 rfl _ _ _) rfl ⟨_, by rw [HF.out.1]; rfl, HB3.out, by rw [HF.out.2]; exact Out.nil _ _ _ _ _⟩
  · have HBD : Hid (Bds n lv tk) := hbt h1
    clear hbt
    go_enter Try.func35, Try.ntmps35
    go_wp2_with (first
      | (go_at_call 43; refine (i_ValidTimetable _ n lv tk _ HS1.out).mono ?_; rintro e w1 ⟨rfl, hb1⟩; have x0 := cell_kept hb1 Q0.out.1; have x1 := cell_kept hb1 Q0.out.2; have HB1 : Hid (Below W.heap.size W w1) := kept_trans HW.out hb1; have HS2 := Lib.hid (HS1.out.kept hb1); have HR2 := Lib.hid (HR1.out.kept hb1))
      | (go_at_call 63; refine (i_validRide l t _).mono ?_; rintro e w2 ⟨rfl, hb2⟩; have y0 := cell_kept hb2 x0; have y1 := cell_kept hb2 x1; have HB2 : Hid (Below W.heap.size W w2) := kept_trans HB1.out hb2; have HS3 := Lib.hid (HS2.out.kept hb2); have HR3 := Lib.hid (HR2.out.kept hb2))
      | (go_at_call 47; refine (i_isDayMinute _ _).mono ?_; rintro e w' ⟨rfl, rfl⟩)
      | (go_at_call 54; refine (i_hasTurns _ n lv tk l t u _ HS3.out HBD hbd).mono ?_; rintro e w3 ⟨rfl, hb3⟩; have z0 := cell_kept hb3 y0; have z1 := cell_kept hb3 y1; have HB3 : Hid (Below W.heap.size W w3) := kept_trans HB2.out hb3; have HS4 := Lib.hid (HS3.out.kept hb3); have HR4 := Lib.hid (HR3.out.kept hb3)))
    all_goals first | omega | refine bodyPost_ret (results_tmp2 rfl _ _ _) rfl ⟨_, by rw [HF.out.1]; rfl, HB3.out, by rw [HF.out.2]; exact Out.nil _ _ _ _ _⟩
  · have HBD : Hid (Bds n lv tk) := hbt h1
    clear hbt
    have hK := insK_le n lv l
    unfold addF
    rcases idx_insK n lv l with ⟨hkn, hidx⟩ | ⟨hkn, hidx⟩
    · rw [hidx] at HIX
      clear hidx
      generalize insK n lv l = K at *
      go_enter Try.func35, Try.ntmps35
      go_wp2_with (first
        | (go_at_call 43; refine (i_ValidTimetable _ n lv tk _ HS1.out).mono ?_; rintro e w1 ⟨rfl, hb1⟩; have x0 := cell_kept hb1 Q0.out.1; have x1 := cell_kept hb1 Q0.out.2; have HB1 : Hid (Below W.heap.size W w1) := kept_trans HW.out hb1; have HS2 := Lib.hid (HS1.out.kept hb1); have HR2 := Lib.hid (HR1.out.kept hb1))
        | (go_at_call 63; refine (i_validRide l t _).mono ?_; rintro e w2 ⟨rfl, hb2⟩; have y0 := cell_kept hb2 x0; have y1 := cell_kept hb2 x1; have HB2 : Hid (Below W.heap.size W w2) := kept_trans HB1.out hb2; have HS3 := Lib.hid (HS2.out.kept hb2); have HR3 := Lib.hid (HR2.out.kept hb2))
        | (go_at_call 47; refine (i_isDayMinute _ _).mono ?_; rintro e w' ⟨rfl, rfl⟩)
        | (go_at_call 54; refine (i_hasTurns _ n lv tk l t u _ HS3.out HBD hbd).mono ?_; rintro e w3 ⟨rfl, hb3⟩; have z0 := cell_kept hb3 y0; have z1 := cell_kept hb3 y1; have HB3 : Hid (Below W.heap.size W w3) := kept_trans HB2.out hb3; have HS4 := Lib.hid (HS3.out.kept hb3); have HR4 := Lib.hid (HR3.out.kept hb3))
        | (go_at_call 48; refine (HIX.out _ HS4.out z0).mono ?_; rintro e w4 ⟨rfl, hb4⟩; have q0 := cell_kept hb4 z0; have q1 := cell_kept hb4 z1; have HB4 : Hid (Below W.heap.size W w4) := kept_trans HB3.out hb4; have HR5 := Lib.hid (HR4.out.kept hb4)))
      clear x0 x1 y0 y1 z0 z1 hb1 hb2 hb3 hb4
      have hn24' : n ≤ 24 := by omega
      go_region_with (first
        | (go_at_call 65; have hgd := hbA; (obtain ⟨g, c, cur, rfl, hBg, hgl, hin⟩ := insIn_a (w := x1.alloc (.cells #[.int .i64 l, .int .i64 t] 48)) (vb := x1.heap.size) hox1.out hvx1 (fun i hi => heap_alloc_old _ _ hi) (heap_alloc_new _ _) (Or.inr (Nat.le_refl _)); refine (f_Insert g n c x1.heap.size K cur lv tk l t _ hin hK hn24').mono ?_); clear hin; rintro e x2 ⟨v2, rfl, hgr2, ho2⟩)
        | (go_at_call 65; have hgd := hbB; (obtain ⟨g, c, cur, rfl, hBg, hgl, hin⟩ := insIn_a (w := x1) (vb := w4.heap.size) hox1.out hvx1 (fun i hi => rfl) ((hbx1.block _ (by simp)).trans (heap_alloc_new _ _)) (Or.inl (by simp)); refine (f_Insert g n c w4.heap.size K cur lv tk l t _ hin hK hn24').mono ?_); clear hin; rintro e x2 ⟨v2, rfl, hgr2, ho2⟩)
        | (go_at_call 66; (refine (f_Clone b n cp lv tk _ hn24' (HR5.out.kept (by repeat (first | assumption | exact Below.refl _ _ | refine kept_drew ?_ | refine kept_alloc ?_ _ | refine kept_trans ?_ (by assumption))))).mono ?_); rintro e x1 ⟨v1, rfl, hbx1, hvx1, hox1⟩; have hox1 := Lib.hid hox1; (first | (have hbA : Below w4.drew.heap.size w4.drew x1 := by with_reducible exact hbx1) | (have hbB := hbx1)); (have p0 := cell_kept (w1 := x1) (by repeat (first | assumption | exact Below.refl _ _ | refine kept_drew ?_ | refine kept_alloc ?_ _ | refine kept_trans ?_ (by assumption))) q0; have p1 := cell_kept (w1 := x1) (by repeat (first | assumption | exact Below.refl _ _ | refine kept_drew ?_ | refine kept_alloc ?_ _ | refine kept_trans ?_ (by assumption))) q1)))
      all_goals
        go_wp2_with fail
        have hB5 : Below W.heap.size W x1 := by
          have hB4 := HB4.out
          refine kept_trans ?_ hbx1
          repeat (first | assumption | refine kept_drew ?_ | refine kept_alloc ?_ _)
        have hs4 := HB4.out.size
        have hsg : W.heap.size ≤ g := by simp at hBg; omega
        have hfin : Below W.heap.size W x2 := by
          first
            | exact keep_grown hB5 hgr2 hB5.size (fun b hb => by simp at hb; omega)
            | exact keep_grown (kept_alloc hB5 _) hgr2 (kept_alloc hB5 _).size (fun b hb => by simp at hb; omega)
        refine bodyPost_ret (results_tmp2 rfl _ _ _) rfl ⟨v2, by rw [HF.out.1]; rfl, hfin, ?_⟩
        rw [HF.out.2]
        exact ownsRow_mono ho2 hsg
    · rw [hidx] at HIX
      clear hidx
      rw [hkn] 
      clear hkn hK
      go_enter Try.func35, Try.ntmps35
      go_wp2_with (first
        | (go_at_call 43; refine (i_ValidTimetable _ n lv tk _ HS1.out).mono ?_; rintro e w1 ⟨rfl, hb1⟩; have x0 := cell_kept hb1 Q0.out.1; have x1 := cell_kept hb1 Q0.out.2; have HB1 : Hid (Below W.heap.size W w1) := kept_trans HW.out hb1; have HS2 := Lib.hid (HS1.out.kept hb1); have HR2 := Lib.hid (HR1.out.kept hb1))
        | (go_at_call 63; refine (i_validRide l t _).mono ?_; rintro e w2 ⟨rfl, hb2⟩; have y0 := cell_kept hb2 x0; have y1 := cell_kept hb2 x1; have HB2 : Hid (Below W.heap.size W w2) := kept_trans HB1.out hb2; have HS3 := Lib.hid (HS2.out.kept hb2); have HR3 := Lib.hid (HR2.out.kept hb2))
        | (go_at_call 47; refine (i_isDayMinute _ _).mono ?_; rintro e w' ⟨rfl, rfl⟩)
        | (go_at_call 54; refine (i_hasTurns _ n lv tk l t u _ HS3.out HBD hbd).mono ?_; rintro e w3 ⟨rfl, hb3⟩; have z0 := cell_kept hb3 y0; have z1 := cell_kept hb3 y1; have HB3 : Hid (Below W.heap.size W w3) := kept_trans HB2.out hb3; have HS4 := Lib.hid (HS3.out.kept hb3); have HR4 := Lib.hid (HR3.out.kept hb3))
        | (go_at_call 48; refine (HIX.out _ HS4.out z0).mono ?_; rintro e w4 ⟨rfl, hb4⟩; have q0 := cell_kept hb4 z0; have q1 := cell_kept hb4 z1; have HB4 : Hid (Below W.heap.size W w4) := kept_trans HB3.out hb4; have HR5 := Lib.hid (HR4.out.kept hb4)))
      clear x0 x1 y0 y1 z0 z1 hb1 hb2 hb3 hb4
      have hn24' : n ≤ 24 := by omega
      go_region_with (first
        | (go_at_call 65; have hgd := hbA; (obtain ⟨g, c, cur, rfl, hBg, hgl, hin⟩ := insIn_a (w := x1.alloc (.cells #[.int .i64 l, .int .i64 t] 48)) (vb := x1.heap.size) hox1.out hvx1 (fun i hi => heap_alloc_old _ _ hi) (heap_alloc_new _ _) (Or.inr (Nat.le_refl _)); refine (f_Insert g n c x1.heap.size n cur lv tk l t _ hin (Nat.le_refl _) hn24').mono ?_); clear hin; rintro e x2 ⟨v2, rfl, hgr2, ho2⟩)
        | (go_at_call 65; have hgd := hbB; (obtain ⟨g, c, cur, rfl, hBg, hgl, hin⟩ := insIn_a (w := x1) (vb := w4.heap.size) hox1.out hvx1 (fun i hi => rfl) ((hbx1.block _ (by simp)).trans (heap_alloc_new _ _)) (Or.inl (by simp)); refine (f_Insert g n c w4.heap.size n cur lv tk l t _ hin (Nat.le_refl _) hn24').mono ?_); clear hin; rintro e x2 ⟨v2, rfl, hgr2, ho2⟩)
        | (go_at_call 66; (refine (f_Clone b n cp lv tk _ hn24' (HR5.out.kept (by repeat (first | assumption | exact Below.refl _ _ | refine kept_drew ?_ | refine kept_alloc ?_ _ | refine kept_trans ?_ (by assumption))))).mono ?_); rintro e x1 ⟨v1, rfl, hbx1, hvx1, hox1⟩; have hox1 := Lib.hid hox1; (first | (have hbA : Below w4.drew.heap.size w4.drew x1 := by with_reducible exact hbx1) | (have hbB := hbx1)); (have p0 := cell_kept (w1 := x1) (by repeat (first | assumption | exact Below.refl _ _ | refine kept_drew ?_ | refine kept_alloc ?_ _ | refine kept_trans ?_ (by assumption))) q0; have p1 := cell_kept (w1 := x1) (by repeat (first | assumption | exact Below.refl _ _ | refine kept_drew ?_ | refine kept_alloc ?_ _ | refine kept_trans ?_ (by assumption))) q1)))
      all_goals
        go_wp2_with fail
        have hB5 : Below W.heap.size W x1 := by
          have hB4 := HB4.out
          refine kept_trans ?_ hbx1
          repeat (first | assumption | refine kept_drew ?_ | refine kept_alloc ?_ _)
        have hs4 := HB4.out.size
        have hsg : W.heap.size ≤ g := by simp at hBg; omega
        have hfin : Below W.heap.size W x2 := by
          first
            | exact keep_grown hB5 hgr2 hB5.size (fun b hb => by simp at hb; omega)
            | exact keep_grown (kept_alloc hB5 _) hgr2 (kept_alloc hB5 _).size (fun b hb => by simp at hb; omega)
        refine bodyPost_ret (results_tmp2 rfl _ _ _) rfl ⟨v2, by rw [HF.out.1]; rfl, hfin, ?_⟩
        rw [HF.out.2]
        exact ownsRow_mono ho2 hsg

end Go.Proofs.Ytcbceodlakbpdaa
