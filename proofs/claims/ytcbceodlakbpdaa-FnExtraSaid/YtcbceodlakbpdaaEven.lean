/- Rides at even distances. -/
import Derived.Test.YtcbceodlakbpdaaTable
import Derived.Deep.DeepMust
namespace Go.Proofs.Ytcbceodlakbpdaa
open Go.RowKit Go.Deep

def vEven (f u e t : Int) : Bool := vSpan f u && inB e 1 1440 && inB t 1 1440
def evenC (f u e t : Int) : Nat := firstTo (fun k => decide (u < f + k * e + t)) 1441
/-- How many rides, and the code. -/
def even (f u e t : Int) : Nat × Int :=
  if vEven f u e t then (if e < t then (0, 6) else if 24 < evenC f u e t then (0, 5) else (evenC f u e t, 0)) else (0, 2)
def evenF (f e t : Int) : Nat → Value := rc (fun k => f + k * e) (fun _ => t)
theorem evenF0 (f e t : Int) (k : Nat) : evenF f e t (k * 2) = .int .i64 (f + k * e) := rc0 _ _ k
theorem evenF1 (f e t : Int) (k : Nat) : evenF f e t (k * 2 + 1) = .int .i64 t := rc1 _ _ k
theorem evenC_eq {f u e t : Int} {k : Nat} (hk : (k : Int) ≤ 1441) (hb : ∀ i : Nat, i < k → f + i * e + t ≤ u) (ha : (k : Int) < 1441 → u < f + k * e + t) : evenC f u e t = k :=
  firstTo_eq (by omega) (fun i hi => by have := hb i hi; simp; omega) (fun h => by have := ha (by omega); simpa using this)
theorem evenC_gt {f u e t : Int} (hb : ∀ i : Nat, i < 25 → f + i * e + t ≤ u) : 24 < evenC f u e t := by
  have h := (firstTo_spec (fun k : Nat => decide (u < f + k * e + t)) 1441).2
  have hl := firstTo_le (fun k : Nat => decide (u < f + k * e + t)) 1441
  show 24 < firstTo (fun k : Nat => decide (u < f + k * e + t)) 1441
  by_cases hc : firstTo (fun k : Nat => decide (u < f + k * e + t)) 1441 < 25
  · have h1 := h (by omega)
    have h2 := hb _ hc
    simp at h1
    omega
  · omega

def EvenPost (f u e t : Int) (W : World) (en : Ending) (W' : World) : Prop :=
  ∃ v, en = .returned (.tuple #[v, .int .i64 (even f u e t).2]) ∧ Below W.heap.size W W' ∧ Out W' W.heap.size 48 2 v (even f u e t).1 (evenF f e t)

theorem even_cases (f u e t : Int) :
    (vEven f u e t = false ∧ Hid (even f u e t = (0, 2))) ∨
    (vEven f u e t = true ∧ (0 ≤ f ∧ f ≤ 1440 ∧ 0 ≤ u ∧ u ≤ 1440 ∧ f ≤ u ∧ 1 ≤ e ∧ e ≤ 1440 ∧ 1 ≤ t ∧ t ≤ 1440) ∧
      ((e < t ∧ Hid (even f u e t = (0, 6))) ∨ (t ≤ e ∧ Hid (even f u e t = if 24 < evenC f u e t then (0, 5) else (evenC f u e t, 0))))) := by
  cases hv : vEven f u e t
  · exact .inl ⟨rfl, by show even f u e t = _; unfold even; rw [hv]; rfl⟩
  · refine .inr ⟨rfl, ?_, ?_⟩
    · simp only [vEven, Bool.and_eq_true, inB_iff] at hv; have := vSpan_out hv.1.1; omega
    · by_cases h : e < t
      · exact .inl ⟨h, by show even f u e t = _; unfold even; rw [hv]; simp [h]⟩
      · exact .inr ⟨by omega, by show even f u e t = _; unfold even; rw [hv]; simp [h]⟩
theorem vEven_parts {f u e t : Int} (h : vEven f u e t = true) : vSpan f u = true ∧ inB e 1 1440 = true ∧ inB t 1 1440 = true ∧ inB f 0 1440 = true ∧ inB u f 1440 = true := by
  simp only [vEven, Bool.and_eq_true] at h
  have := h.1.1
  rw [vSpan_alt, Bool.and_eq_true] at this
  exact ⟨h.1.1, h.1.2, h.2, this.1, this.2⟩
theorem vEven_no {f u e t : Int} (h : vEven f u e t = false) :
    (vSpan f u = false ∧ (inB f 0 1440 = false ∨ (inB f 0 1440 = true ∧ inB u f 1440 = false))) ∨ (vSpan f u = true ∧ inB f 0 1440 = true ∧ inB u f 1440 = true ∧ (inB e 1 1440 = false ∨ (inB e 1 1440 = true ∧ inB t 1 1440 = false))) := by
  have ha := vSpan_alt f u
  unfold vEven at h
  cases h1 : inB f 0 1440 <;> cases h2 : inB u f 1440 <;> cases h3 : inB e 1 1440 <;> cases h4 : inB t 1 1440 <;> simp_all
attribute [irreducible] evenC even vEven

set_option maxRecDepth 100000 in
set_option maxHeartbeats 1000000 in
theorem i_EvenRides (f u e t : Int) (W : World) : Calls Try.prog 41 #[.int .i64 f, .int .i64 u, .int .i64 e, .int .i64 t] W (EvenPost f u e t W) := by
  obtain ⟨i0, hi, hz0, hz1, hz2⟩ := info_parts infoRide
  rcases even_cases f u e t with ⟨hv, HF⟩ | ⟨hv, ⟨f0, f1, u0, u1, fu, e0, e1, t0, t1⟩, ⟨hs, HF⟩ | ⟨hs, HF⟩⟩
  · rcases vEven_no hv with ⟨h1, -⟩ | ⟨h1, -, -, h2 | ⟨h2, h3⟩⟩
    all_goals
      go_enter Try.func41, Try.ntmps41
      go_wp2_with (first | (go_at_call 60; refine (i_isSpan _ _ _).mono ?_; rintro e w' ⟨rfl, rfl⟩) | (go_at_call 53; refine (i_within _ _ _ _).mono ?_; rintro e w' ⟨rfl, rfl⟩))
      refine bodyPost_ret (results_tmp2 rfl _ _ _) rfl ⟨_, by rw [HF.out]; rfl, (by repeat (first | assumption | exact Below.refl _ _ | refine kept_drew ?_ | refine kept_drewN ?_ _ | refine kept_alloc ?_ _ | refine kept_set ?_ ?_ _ | (simp; done) | (simp; omega) | refine kept_trans ?_ (by assumption))), by rw [HF.out]; exact Out.nil _ _ _ _ _⟩
  · obtain ⟨i1, i4, i5, -, -⟩ := vEven_parts hv
    go_enter Try.func41, Try.ntmps41
    go_wp2_with (first | (go_at_call 60; refine (i_isSpan _ _ _).mono ?_; rintro e w' ⟨rfl, rfl⟩) | (go_at_call 53; refine (i_within _ _ _ _).mono ?_; rintro e w' ⟨rfl, rfl⟩))
    refine bodyPost_ret (results_tmp2 rfl _ _ _) rfl ⟨_, by rw [HF.out]; rfl, (by repeat (first | assumption | exact Below.refl _ _ | refine kept_drew ?_ | refine kept_drewN ?_ _ | refine kept_alloc ?_ _ | refine kept_set ?_ ?_ _ | (simp; done) | (simp; omega) | refine kept_trans ?_ (by assumption))), by rw [HF.out]; exact Out.nil _ _ _ _ _⟩
  · obtain ⟨i1, i4, i5, -, -⟩ := vEven_parts hv
    go_enter Try.func41, Try.ntmps41
    go_wp2_with (first | (go_at_call 60; refine (i_isSpan _ _ _).mono ?_; rintro e w' ⟨rfl, rfl⟩) | (go_at_call 53; refine (i_within _ _ _ _).mono ?_; rintro e w' ⟨rfl, rfl⟩))
    go_loopw [10, 11] (fun v a wr => ∃ k : Nat, (k : Int) ≤ 1441 ∧ a = .int .i64 (f + k * e) ∧ 0 ≤ (k : Int) * e ∧ f + k * e ≤ u + e ∧ Below W.heap.size W wr ∧ Out wr W.heap.size 48 2 v k (evenF f e t) ∧ Hid (∀ i : Nat, i < k → f + i * e + t ≤ u)) (fun _ a _ => (u + e - intOf a).toNat)
    case atStart => exact ⟨0, by omega, by simp, by simp, by simp; omega, (by repeat (first | assumption | exact Below.refl _ _ | refine kept_drew ?_ | refine kept_drewN ?_ _ | refine kept_alloc ?_ _ | refine kept_set ?_ ?_ _ | (simp; done) | (simp; omega) | refine kept_trans ?_ (by assumption))), Out.nil _ _ _ _ _, fun i hi => by omega⟩
    case round =>
      obtain ⟨k, hk, rfl, ke0, ke1, hb, hown, hno⟩ := hrel
      by_cases hlt : f + k * e + t ≤ u
      · have hk2 : (k : Int) ≤ k * e := by
          have := Int.mul_le_mul_of_nonneg_left e0 (show (0 : Int) ≤ k by omega)
          omega
        go_wp2_with (first | (at_builtin; go_must (refine wpList_append_own _ rfl _ _ 26 rfl _ 48 i0 _ 2 16 Try.underlying26 hi hz0 hz1 hz2 rfl (by decide) _ _ _ rfl (hown.row.alloc _) ⟨wr.heap.size, 0, none⟩ 1 1 [.int .i64 (f + k * e), .int .i64 t] rfl rfl laid_new (by intro u hu; simp at hu; first | (rcases hu with rfl | rfl <;> rfl) | (subst hu; rfl) | (rcases hu with rfl | rfl | rfl | rfl <;> rfl)) (by simp only [maxLen]; omega) (by omega) (by have hbs := hb.size; simp; omega) ?_); intro v1 w1 hown1 hgrow1 _))
        have R1 := Out.snoc2 hown1 (evenF0 f e t k).symm (evenF1 f e t k).symm
        have R2 := below_of_append hb hown.row hgrow1
        have HN : Hid (∀ i : Nat, i < k + 1 → f + i * e + t ≤ u) := fun i hi => by
          by_cases e : i = k
          · rw [e]; exact hlt
          · exact hno.out i (by omega)
        have em : ((k + 1 : Nat) : Int) * e = k * e + e := by rw [Int.natCast_add, Int.add_mul]; simp
        have EM := Lib.hid em
        clear hown hown1 hgrow1 hb em
        go_wp2
        go_roundw
        case rel => exact ⟨k + 1, by omega, by rw [EM.out]; congr 1; omega, by rw [EM.out]; omega, by rw [EM.out]; omega, R2, R1, HN⟩
        case measure => simp [intOf]; omega
      · have hk2 : (k : Int) ≤ k * e := by
          have := Int.mul_le_mul_of_nonneg_left e0 (show (0 : Int) ≤ k by omega)
          omega
        have HC := Lib.hid (evenC_eq (f := f) (u := u) (e := e) (t := t) hk hno.out (fun _ => by omega))
        by_cases h24 : (24 : Int) < k
        · have HF' : Hid (even f u e t = (0, 5)) := by have := HF.out; rw [HC.out, if_pos (by omega)] at this; exact this
          have hsl := hown.sl (by omega)
          obtain ⟨-, ao, cap, rfl, -⟩ := hsl
          clear hown
          go_wp2
          refine bodyPost_ret (results_tmp2 rfl _ _ _) rfl ⟨_, by rw [HF'.out]; rfl, hb, by rw [HF'.out]; exact Out.nil _ _ _ _ _⟩
        · have HF' : Hid (even f u e t = (k, 0)) := by have := HF.out; rw [HC.out, if_neg (by omega)] at this; exact this
          have hsl := hown.sl (by omega)
          obtain ⟨-, ao, cap, rfl, -⟩ := hsl
          go_wp2
          refine bodyPost_ret (results_tmp2 rfl _ _ _) rfl ⟨_, by rw [HF'.out]; rfl, hb, by rw [HF'.out]; exact hown⟩

theorem even_small (f u e t : Int) : (even f u e t).1 ≤ 17592186044416 := by
  unfold even
  have := firstTo_le (fun k : Nat => decide (u < f + k * e + t)) 1441
  have e : evenC f u e t = firstTo (fun k : Nat => decide (u < f + k * e + t)) 1441 := by unfold evenC; rfl
  split
  · split
    · simp
    · split
      · simp
      · simp only [e]; omega
  · simp

end Go.Proofs.Ytcbceodlakbpdaa
