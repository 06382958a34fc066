/- Rides at even distances. -/
import Derived.Test.YtelgkgbglomcnaaTable
import Derived.Deep.DeepMust
namespace Go.Proofs.Ytelgkgbglomcnaa
open Go.RowKit Go.Deep

def vEven (f u e t : Int) : Bool := vSpan f u && inB e 1 1440 && inB t 1 1440
def evenC (f u e t : Int) : Nat := firstTo (fun k => decide (u < f + k * e + t)) 1441
/-- How many rides, and the code. -/
def even (f u e t : Int) : Nat × Int :=
  if vEven f u e t then (if e < t then (0, 6) else if 24 < evenC f u e t then (0, 5) else (evenC f u e t, 0)) else (0, 2)
def evenF (f e t : Int) : Nat → Value := rc (fun k => f + k * e) (fun _ => t)
theorem evenF0 (f e t : Int) (k : Nat) : evenF f e t (k * 2) = .int .i64 (f + k * e) := rc0 _ _ k
theorem evenF1 (f e t : Int) (k : Nat) : evenF f e t (k * 2 + 1) = .int .i64 t := rc1 _ _ k
theorem evenC_eq {f u e t : Int} {k : Nat} (hk : (k : Int) ≤ 1441) (hb : ∀ i : Nat, i < k → f + i * e + t ≤ u) (ha : (k : Int) < 1441 → u < f + k * e + t) : evenC f u e t = k :=
  firstTo_eq (by omega) (fun i hi => by have := hb i hi; simp; omega) (fun h => by have := ha (by omega); simpa using this)
theorem evenC_gt {f u e t : Int} (hb : ∀ i : Nat, i < 25 → f + i * e + t ≤ u) : 24 < evenC f u e t := by
  have h := (firstTo_spec (fun k : Nat => decide (u < f + k * e + t)) 1441).2
  have hl := firstTo_le (fun k : Nat => decide (u < f + k * e + t)) 1441
  show 24 < firstTo (fun k : Nat => decide (u < f + k * e + t)) 1441
  by_cases hc : firstTo (fun k : Nat => decide (u < f + k * e + t)) 1441 < 25
  · have h1 := h (by omega)
    have h2 := hb _ hc
    simp at h1
    omega
  · omega

def EvenPost (f u e t : Int) (W : World) (en : Ending) (W' : World) : Prop :=
  ∃ v, en = .returned (.tuple #[v, .int .i64 (even f u e t).2]) ∧ Below W.heap.size W W' ∧ Out W' W.heap.size 81 2 v (even f u e t).1 (evenF f e t)

theorem even_cases (f u e t : Int) :
    (vEven f u e t = false ∧ Hid (even f u e t = (0, 2))) ∨
    (vEven f u e t = true ∧ (0 ≤ f ∧ f ≤ 1440 ∧ 0 ≤ u ∧ u ≤ 1440 ∧ f ≤ u ∧ 1 ≤ e ∧ e ≤ 1440 ∧ 1 ≤ t ∧ t ≤ 1440) ∧
      ((e < t ∧ Hid (even f u e t = (0, 6))) ∨ (t ≤ e ∧ Hid (even f u e t = if 24 < evenC f u e t then (0, 5) else (evenC f u e t, 0))))) := by
  cases hv : vEven f u e t
  · exact .inl ⟨rfl, by show even f u e t = _; unfold even; rw [hv]; rfl⟩
  · refine .inr ⟨rfl, ?_, ?_⟩
    · simp only [vEven, Bool.and_eq_true, inB_iff] at hv; have := vSpan_out hv.1.1; omega
    · by_cases h : e < t
      · exact .inl ⟨h, by show even f u e t = _; unfold even; rw [hv]; simp [h]⟩
      · exact .inr ⟨by omega, by show even f u e t = _; unfold even; rw [hv]; simp [h]⟩
theorem vEven_parts {f u e t : Int} (h : vEven f u e t = true) : vSpan f u = true ∧ inB e 1 1440 = true ∧ inB t 1 1440 = true ∧ inB f 0 1440 = true ∧ inB u f 1440 = true := by
  simp only [vEven, Bool.and_eq_true] at h
  have := h.1.1
  rw [vSpan_alt, Bool.and_eq_true] at this
  exact ⟨h.1.1, h.1.2, h.2, this.1, this.2⟩
theorem vEven_no {f u e t : Int} (h : vEven f u e t = false) :
    (vSpan f u = false ∧ (inB f 0 1440 = false ∨ (inB f 0 1440 = true ∧ inB u f 1440 = false))) ∨ (vSpan f u = true ∧ inB f 0 1440 = true ∧ inB u f 1440 = true ∧ (inB e 1 1440 = false ∨ (inB e 1 1440 = true ∧ inB t 1 1440 = false))) := by
  have ha := vSpan_alt f u
  unfold vEven at h
  cases h1 : inB f 0 1440 <;> cases h2 : inB u f 1440 <;> cases h3 : inB e 1 1440 <;> cases h4 : inB t 1 1440 <;> simp_all
attribute [irreducible] evenC even vEven

set_option maxRecDepth 100000 in
set_option maxHeartbeats 1000000 in
theorem i_EvenRides (f u e t : Int) (W : World) : Calls Try.prog 44 #[.int .i64 f, .int .i64 u, .int .i64 e, .int .i64 t] W (EvenPost f u e t W) := by
  obtain ⟨i0, hi, hz0, hz1, hz2⟩ := info_parts infoRide
  rcases even_cases f u e t with ⟨hv, HF⟩ | ⟨hv, ⟨f0, f1, u0, u1, fu, e0, e1, t0, t1⟩, ⟨hs, HF⟩ | ⟨hs, HF⟩⟩
  · rcases vEven_no hv with ⟨h1, -⟩ | ⟨h1, -, -, h2 | ⟨h2, h3⟩⟩
    all_goals
      go_enter Try.func44, Try.ntmps44
      go_wp2_with (first | (go_at_call 88; refine (i_isSpan _ _ _).mono ?_; rintro e w' ⟨rfl, rfl⟩) | (go_at_call 48; refine (i_within _ _ _ _).mono ?_; rintro e w' ⟨rfl, rfl⟩))
      refine bodyPost_ret (results_tmp2 rfl _ _ _) rfl ⟨_, by rw [HF.out]; rfl, (by repeat (first | assumption | exact Below.refl _ _ | refine kept_drew ?_ | refine kept_drewN ?_ _ | refine kept_alloc ?_ _ | refine kept_set ?_ ?_ _ | (simp; done) | (simp; omega) | refine kept_trans ?_ (by assumption))), by rw [HF.out]; exact Out.nil _ _ _ _ _⟩
  · obtain ⟨i1, i4, i5, -, -⟩ := vEven_parts hv
    go_enter Try.func44, Try.ntmps44
    go_wp2_with (first | (go_at_call 88; refine (i_isSpan _ _ _).mono ?_; rintro e w' ⟨rfl, rfl⟩) | (go_at_call 48; refine (i_within _ _ _ _).mono ?_; rintro e w' ⟨rfl, rfl⟩))
    refine bodyPost_ret (results_tmp2 rfl _ _ _) rfl ⟨_, by rw [HF.out]; rfl, (by repeat (first | assumption | exact Below.refl _ _ | refine kept_drew ?_ | refine kept_drewN ?_ _ | refine kept_alloc ?_ _ | refine kept_set ?_ ?_ _ | (simp; done) | (simp; omega) | refine kept_trans ?_ (by assumption))), by rw [HF.out]; exact Out.nil _ _ _ _ _⟩
  · obtain ⟨i1, i4, i5, -, -⟩ := vEven_parts hv
    go_enter Try.func44, Try.ntmps44
    go_wp2_with (first | (go_at_call 88; refine (i_isSpan _ _ _).mono ?_; rintro e w' ⟨rfl, rfl⟩) | (go_at_call 48; refine (i_within _ _ _ _).mono ?_; rintro e w' ⟨rfl, rfl⟩))
    go_loopw [10, 11] (fun v a wr => ∃ k : Nat, (k : Int) ≤ 1441 ∧ a = .int .i64 (f + k * e) ∧ 0 ≤ (k : Int) * e ∧ f + k * e ≤ u + e ∧ Below W.heap.size W wr ∧ Out wr W.heap.size 81 2 v k (evenF f e t) ∧ Hid (∀ i : Nat, i < k → f + i * e + t ≤ u)) (fun _ a _ => (u + e - intOf a).toNat)
    case atStart => exact ⟨0, by omega, by simp, by simp, by simp; omega, (by repeat (first | assumption | exact Below.refl _ _ | refine kept_drew ?_ | refine kept_drewN ?_ _ | refine kept_alloc ?_ _ | refine kept_set ?_ ?_ _ | (simp; done) | (simp; omega) | refine kept_trans ?_ (by assumption))), Out.nil _ _ _ _ _, fun i hi => by omega⟩
    case round =>
      obtain ⟨k, hk, rfl, ke0, ke1, hb, hown, hno⟩ := hrel
      by_cases hlt : f + k * e + t ≤ u
      · have hk2 : (k : Int) ≤ k * e := by
          have := Int.mul_le_mul_of_nonneg_left e0 (show (0 : Int) ≤ k by omega)
          omega
        go_wp2_with (first | (at_builtin; go_must (refine wpList_append_own _ rfl _ _ 58 rfl _ 81 i0 _ 2 16 Try.underlying58 hi hz0 hz1 hz2 rfl (by decide) _ _ _ rfl (hown.row.alloc _) ⟨wr.heap.size, 0, none⟩ 1 1 [.int .i64 (f + k * e), .int .i64 t] rfl rfl laid_new (by intro u hu; simp at hu; first | (rcases hu with rfl | rfl <;> rfl) | (subst hu; rfl) | (rcases hu with rfl | rfl | rfl | rfl <;> rfl)) (by simp only [maxLen]; omega) (by omega) (by have hbs := hb.size; simp; omega) ?_); intro v1 w1 hown1 hgrow1 _))
        have R1 := Out.snoc2 hown1 (evenF0 f e t k).symm (evenF1 f e t k).symm
        have R2 := below_of_append hb hown.row hgrow1
        have HN : Hid (∀ i : Nat, i < k + 1 → f + i * e + t ≤ u) := fun i hi => by
          by_cases e : i = k
          · rw [e]; exact hlt
          · exact hno.out i (by omega)
        have em : ((k + 1 : Nat) : Int) * e = k * e + e := by rw [Int.natCast_add, Int.add_mul]; simp
        have EM := Lib.hid em
        clear hown hown1 hgrow1 hb em
        go_wp2
        go_roundw
        case rel => exact ⟨k + 1, by omega, by rw [EM.out]; congr 1; omega, by rw [EM.out]; omega, by rw [EM.out]; omega, R2, R1, HN⟩
        case measure => simp [intOf]; omega
      · have hk2 : (k : Int) ≤ k * e := by
          have := Int.mul_le_mul_of_nonneg_left e0 (show (0 : Int) ≤ k by omega)
          omega
        have HC := Lib.hid (evenC_eq (f := f) (u := u) (e := e) (t := t) hk hno.out (fun _ => by omega))
        by_cases h24 : (24 : Int) < k
        · have HF' : Hid (even f u e t = (0, 5)) := by have := HF.out; rw [HC.out, if_pos (by omega)] at this; exact this
          have hsl := hown.sl (by omega)
          obtain ⟨-, ao, cap, rfl, -⟩ := hsl
          clear hown
          go_wp2
          refine bodyPost_ret (results_tmp2 rfl _ _ _) rfl ⟨_, by rw [HF'.out]; rfl, hb, by rw [HF'.out]; exact Out.nil _ _ _ _ _⟩
        · have HF' : Hid (even f u e t = (k, 0)) := by have := HF.out; rw [HC.out, if_neg (by omega)] at this; exact this
          have hsl := hown.sl (by omega)
          obtain ⟨-, ao, cap, rfl, -⟩ := hsl
          go_wp2
          refine bodyPost_ret (results_tmp2 rfl _ _ _) rfl ⟨_, by rw [HF'.out]; rfl, hb, by rw [HF'.out]; exact hown⟩

set_option maxRecDepth 100000 in
set_option maxHeartbeats 1000000 in
theorem s_EvenRides (f u e t : Int) (W : World) : Calls Try.prog 43 #[.int .i64 f, .int .i64 u, .int .i64 e, .int .i64 t] W (EvenPost f u e t W) := by
  obtain ⟨i0, hi, hz0, hz1, hz2⟩ := info_parts infoRide
  rcases even_cases f u e t with ⟨hv, HF⟩ | ⟨hv, ⟨f0, f1, u0, u1, fu, e0, e1, t0, t1⟩, ⟨hs, HF⟩ | ⟨hs, HF⟩⟩
  · rcases vEven_no hv with ⟨-, h1 | ⟨h1, h2⟩⟩ | ⟨-, h1, h2, h3 | ⟨h3, h4⟩⟩
    all_goals
      go_enter Try.func43, Try.ntmps43
      go_wp2_with (first | (go_at_call 87; refine (s_l19Minute _ _).mono ?_; rintro e w' ⟨rfl, rfl⟩) | (go_at_call 82; refine (s_l00In _ _ _ _).mono ?_; rintro e w' ⟨rfl, rfl⟩))
      refine bodyPost_ret (results_tmp2 rfl _ _ _) rfl ⟨_, by rw [HF.out]; rfl, (by repeat (first | assumption | exact Below.refl _ _ | refine kept_drew ?_ | refine kept_drewN ?_ _ | refine kept_alloc ?_ _ | refine kept_set ?_ ?_ _ | (simp; done) | (simp; omega) | refine kept_trans ?_ (by assumption))), by rw [HF.out]; exact Out.nil _ _ _ _ _⟩
  · obtain ⟨-, i4, i5, i1, i2⟩ := vEven_parts hv
    go_enter Try.func43, Try.ntmps43
    go_wp2_with (first | (go_at_call 87; refine (s_l19Minute _ _).mono ?_; rintro e w' ⟨rfl, rfl⟩) | (go_at_call 82; refine (s_l00In _ _ _ _).mono ?_; rintro e w' ⟨rfl, rfl⟩))
    refine bodyPost_ret (results_tmp2 rfl _ _ _) rfl ⟨_, by rw [HF.out]; rfl, (by repeat (first | assumption | exact Below.refl _ _ | refine kept_drew ?_ | refine kept_drewN ?_ _ | refine kept_alloc ?_ _ | refine kept_set ?_ ?_ _ | (simp; done) | (simp; omega) | refine kept_trans ?_ (by assumption))), by rw [HF.out]; exact Out.nil _ _ _ _ _⟩
  · obtain ⟨-, i4, i5, i1, i2⟩ := vEven_parts hv
    go_enter Try.func43, Try.ntmps43
    go_wp2_with (first | (go_at_call 87; refine (s_l19Minute _ _).mono ?_; rintro e w' ⟨rfl, rfl⟩) | (go_at_call 82; refine (s_l00In _ _ _ _).mono ?_; rintro e w' ⟨rfl, rfl⟩))
    go_loopw [10, 11] (fun v a wr => ∃ k : Nat, (k : Int) ≤ 24 ∧ a = .int .i64 (f + k * e) ∧ 0 ≤ (k : Int) * e ∧ f + k * e ≤ u + e ∧ Below W.heap.size W wr ∧ Out wr W.heap.size 81 2 v k (evenF f e t) ∧ Hid (∀ i : Nat, i < k → f + i * e + t ≤ u)) (fun _ a _ => (u + e - intOf a).toNat)
    case atStart => exact ⟨0, by omega, by simp, by simp, by simp; omega, (by repeat (first | assumption | exact Below.refl _ _ | refine kept_drew ?_ | refine kept_drewN ?_ _ | refine kept_alloc ?_ _ | refine kept_set ?_ ?_ _ | (simp; done) | (simp; omega) | refine kept_trans ?_ (by assumption))), Out.empty _ _ _ _ _ (Nat.le_refl _), fun i hi => by omega⟩
    case round =>
      obtain ⟨k, hk, rfl, ke0, ke1, hb, hown, hno⟩ := hrel
      have hsl := hown.sl (by omega)
      obtain ⟨-, ao, cap, rfl, -⟩ := hsl
      have hk2 : (k : Int) ≤ k * e := by
        have := Int.mul_le_mul_of_nonneg_left e0 (show (0 : Int) ≤ k by omega)
        omega
      by_cases hlt : f + k * e + t ≤ u
      · have HN : Hid (∀ i : Nat, i < k + 1 → f + i * e + t ≤ u) := fun i hi => by
          by_cases e : i = k
          · rw [e]; exact hlt
          · exact hno.out i (by omega)
        by_cases h24 : (k : Int) < 24
        · go_wp2_with (first | (at_builtin; go_must (refine wpList_append_own _ rfl _ _ 58 rfl _ 81 i0 _ 2 16 Try.underlying58 hi hz0 hz1 hz2 rfl (by decide) _ _ _ rfl (hown.row.alloc _) ⟨wr.heap.size, 0, none⟩ 1 1 [.int .i64 (f + k * e), .int .i64 t] rfl rfl laid_new (by intro u hu; simp at hu; first | (rcases hu with rfl | rfl <;> rfl) | (subst hu; rfl) | (rcases hu with rfl | rfl | rfl | rfl <;> rfl)) (by simp only [maxLen]; omega) (by omega) (by have hbs := hb.size; simp; omega) ?_); intro v1 w1 hown1 hgrow1 _))
          have R1 := Out.snoc2 hown1 (evenF0 f e t k).symm (evenF1 f e t k).symm
          have R2 := below_of_append hb hown.row hgrow1
          have em : ((k + 1 : Nat) : Int) * e = k * e + e := by rw [Int.natCast_add, Int.add_mul]; simp
          have EM := Lib.hid em
          clear hown hown1 hgrow1 hb em
          go_wp2
          go_roundw
          case rel => exact ⟨k + 1, by omega, by rw [EM.out]; congr 1; omega, by rw [EM.out]; omega, by rw [EM.out]; omega, R2, R1, HN⟩
          case measure => simp [intOf]; omega
        · have HF' : Hid (even f u e t = (0, 5)) := by
            have := HF.out
            rw [if_pos (evenC_gt (fun i hi => HN.out i (by omega)))] at this
            exact this
          clear hown
          go_wp2
          refine bodyPost_ret (results_tmp2 rfl _ _ _) rfl ⟨_, by rw [HF'.out]; rfl, hb, by rw [HF'.out]; exact Out.nil _ _ _ _ _⟩
      · have HC := Lib.hid (evenC_eq (f := f) (u := u) (e := e) (t := t) (by omega) hno.out (fun _ => by omega))
        have HF' : Hid (even f u e t = (k, 0)) := by have := HF.out; rw [HC.out, if_neg (by omega)] at this; exact this
        go_wp2
        refine bodyPost_ret (results_tmp2 rfl _ _ _) rfl ⟨_, by rw [HF'.out]; rfl, hb, by rw [HF'.out]; exact hown⟩

theorem even_small (f u e t : Int) : (even f u e t).1 ≤ 17592186044416 := by
  unfold even
  have := firstTo_le (fun k : Nat => decide (u < f + k * e + t)) 1441
  have e : evenC f u e t = firstTo (fun k : Nat => decide (u < f + k * e + t)) 1441 := by unfold evenC; rfl
  split
  · split
    · simp
    · split
      · simp
      · simp only [e]; omega
  · simp

theorem l_EvenRides (f u e t : Int) (W : World) : Calls Try.prog 13 #[.int .i64 f, .int .i64 u, .int .i64 e, .int .i64 t] W (Truly W) := by
  have hn := even_small f u e t
  generalize hnn : (even f u e t).1 = n at *
  generalize hc : (even f u e t).2 = c at *
  have hP : ∀ w en w', EvenPost f u e t w en w' → ∃ v, en = .returned (.tuple #[v, .int .i64 c]) ∧ Below w.heap.size w w' ∧ Out w' w.heap.size 81 2 v n (evenF f e t) := by
    intro w en w' ⟨v, h1, h2, h3⟩
    rw [hc] at h1; rw [hnn] at h3
    exact ⟨v, h1, h2, h3⟩
  clear hnn hc
  have HS : Hid (∀ w, Calls Try.prog 43 #[.int .i64 f, .int .i64 u, .int .i64 e, .int .i64 t] w fun en w' => ∃ v, en = .returned (.tuple #[v, .int .i64 c]) ∧ Below w.heap.size w w' ∧ Out w' w.heap.size 81 2 v n (evenF f e t)) := fun w => (s_EvenRides f u e t w).mono (hP w)
  have HI : Hid (∀ w, Calls Try.prog 44 #[.int .i64 f, .int .i64 u, .int .i64 e, .int .i64 t] w fun en w' => ∃ v, en = .returned (.tuple #[v, .int .i64 c]) ∧ Below w.heap.size w w' ∧ Out w' w.heap.size 81 2 v n (evenF f e t)) := fun w => (i_EvenRides f u e t w).mono (hP w)
  clear hP
  have hn' : (n : Int) ≤ 17592186044416 := by omega
  go_enter Try.func13, Try.ntmps13
  go_wp2_with fail
  refine (HS.out _).mono ?_
  rintro e w1 ⟨v0, rfl, hb1, ho1⟩
  go_wp2_with fail
  refine (HI.out _).mono ?_
  rintro e w2 ⟨g0, rfl, hb2, ho2⟩
  have s1 := (ho1.sl hn).kept hb2
  have s2 := ho2.sl hn
  have m2 := ho2.mine hn
  go_wp2_with fail
  refine (eqRideS_any _ _ n _ _ _ s2 s1).mono ?_
  rintro e w3 ⟨rfl, hb3⟩
  go_wp2_with fail
  refine (markRideS_any _ n _ _ (m2.kept hb3) (by omega) (by omega)).mono ?_
  rintro e w4 ⟨rfl, hg4, s4, m4⟩
  have s1' := (s1.kept hb3).far hg4 (fun b hb he => by
    have h1 := (ho1.base b hb).2
    have h2 := (ho2.base b he.symm).1
    omega)
  have hb4 : Below W.heap.size w3 w4 := below_of_grown hg4 (by have := hb1.size; have := hb2.size; have := hb3.size; omega) (fun b hb => by have := (ho2.base b hb).1; have := hb1.size; omega)
  go_wp2_with fail
  refine (heldRideS_any _ n _ _ s4 (by omega) (by omega)).mono ?_
  rintro e w5 ⟨rfl, hb5⟩
  go_wp2_with fail
  refine (HI.out _).mono ?_
  rintro e w6 ⟨g1, rfl, hb6, ho6⟩
  go_wp2_with fail
  refine (eqRideS_any _ _ n _ _ _ (ho6.sl hn) ((s1'.kept hb5).kept hb6)).mono ?_
  rintro e w7 ⟨rfl, hb7⟩
  go_wp2_with fail
  refine (heldRideS_any _ n _ _ (((s4.kept hb5).kept hb6).kept hb7) (by omega) (by omega)).mono ?_
  rintro e w8 ⟨rfl, hb8⟩
  go_wp2_with fail
  go_ret
  refine ⟨rfl, ?_⟩
  have k3 : Below W.heap.size W w3 := kept_trans (kept_trans hb1 hb2) hb3
  have k4 := k3.trans hb4
  exact kept_trans (kept_trans (kept_trans (kept_trans k4 hb5) hb6) hb7) hb8

end Go.Proofs.Ytelgkgbglomcnaa
