/- The rides that leave at some minutes. -/
import Derived.Test.YtcbceodlakbpdaaSlack
import Derived.Test.YtcbceodlakbpdaaPicks
namespace Go.Proofs.Ytcbceodlakbpdaa
open Go.RowKit Go.Deep

def between (n : Nat) (lv tk : Nat → Int) (f u : Int) : List Int × Int := if tAsk n lv tk (vSpan f u) = 0 then (picks (fun k => inB (lv k) f u) n, 0) else ([], tAsk n lv tk (vSpan f u))
theorem between_cases (n : Nat) (lv tk : Nat → Int) (f u : Int) :
    (∃ c, tAsk n lv tk (vSpan f u) = c ∧ (1 ≤ c ∧ c ≤ 2) ∧ Hid (between n lv tk f u = ([], c))) ∨
    (tAsk n lv tk (vSpan f u) = 0 ∧ n ≤ 24 ∧ Hid (between n lv tk f u = (picks (fun k => inB (lv k) f u) n, 0))) := by
  rcases tAsk_cases n lv tk (vSpan f u) with ⟨hv, hf⟩ | ⟨hv, hi, hf⟩ | ⟨hv, hi, hf⟩
  · exact .inl ⟨1, hf.out, by omega, by show between _ _ _ _ _ = _; unfold between; rw [hf.out]; rfl⟩
  · exact .inl ⟨2, hf.out, by omega, by show between _ _ _ _ _ = _; unfold between; rw [hf.out]; rfl⟩
  · exact .inr ⟨hf.out, (vTable_out hv).1, by show between _ _ _ _ _ = _; unfold between; rw [hf.out]; rfl⟩
theorem between_cases2 (n : Nat) (lv tk : Nat → Int) (f u : Int) :
    (∃ c, tAsk n lv tk (inB f 0 1440) = c ∧ (1 ≤ c ∧ c ≤ 2) ∧ Hid (between n lv tk f u = ([], c))) ∨
    (tAsk n lv tk (inB f 0 1440) = 0 ∧ inB u f 1440 = false ∧ Hid (between n lv tk f u = ([], 2))) ∨
    (tAsk n lv tk (inB f 0 1440) = 0 ∧ inB u f 1440 = true ∧ n ≤ 24 ∧ Hid (between n lv tk f u = (picks (fun k => inB (lv k) f u) n, 0))) := by
  have ha := vSpan_alt f u
  rcases tAsk_cases n lv tk (vSpan f u) with ⟨hv, hf⟩ | ⟨hv, hi, hf⟩ | ⟨hv, hi, hf⟩
  · refine .inl ⟨1, ?_, by omega, by show between _ _ _ _ _ = _; unfold between; rw [hf.out]; rfl⟩
    unfold tAsk; rw [hv]; rfl
  · have hb : between n lv tk f u = ([], 2) := by unfold between; rw [hf.out]; rfl
    cases h1 : inB f 0 1440
    · exact .inl ⟨2, by unfold tAsk; rw [hv]; rfl, by omega, hb⟩
    · rw [hi, h1] at ha
      exact .inr (.inl ⟨by unfold tAsk; rw [hv]; rfl, by simpa using ha.symm, hb⟩)
  · rw [hi] at ha
    have ha := ha.symm
    rw [Bool.and_eq_true] at ha
    exact .inr (.inr ⟨by unfold tAsk; rw [hv, ha.1]; rfl, ha.2, (vTable_out hv).1, by show between _ _ _ _ _ = _; unfold between; rw [hf.out]; rfl⟩)
attribute [irreducible] between

def BetweenPost (n : Nat) (lv tk : Nat → Int) (f u : Int) (W : World) (en : Ending) (W' : World) : Prop :=
  ∃ v, en = .returned (.tuple #[v, .int .i64 (between n lv tk f u).2]) ∧ Below W.heap.size W W' ∧ Out W' W.heap.size 2 1 v (between n lv tk f u).1.length (ic (lz (between n lv tk f u).1))

set_option maxHeartbeats 1000000 in
theorem i_RidesBetween (v : Value) (n : Nat) (lv tk : Nat → Int) (f u : Int) (W : World) (hs : Sl W v 2 n (rc lv tk)) : Calls Try.prog 30 #[v, .int .i64 f, .int .i64 u] W (BetweenPost n lv tk f u W) := by
  obtain ⟨i0, hi, hz0, hz1, hz2⟩ := info_parts infoInt
  have HA := Lib.hid (fun w => i_timetabled v n lv tk (vSpan f u) w)
  have HS := hs
  obtain ⟨hn, ao, cap, rfl, hr⟩ := hs
  rcases between_cases n lv tk f u with ⟨c, hc, hc1, HT⟩ | ⟨hc, h24, HT⟩
  · rw [hc] at HA
    clear hr
    go_enter Try.func30, Try.ntmps30
    go_wp2_with (first | (go_at_call 60; refine (i_isSpan _ _ _).mono ?_; rintro e w' ⟨rfl, rfl⟩) | (go_at_call 46; refine (HA.out _ HS).mono ?_; rintro e w1 ⟨rfl, hb1⟩))
    refine bodyPost_ret (results_tmp2 rfl _ _ _) rfl ⟨_, by rw [HT.out]; rfl, hb1, by rw [HT.out]; exact Out.nil _ _ _ _ _⟩
  · rw [hc] at HA
    go_enter Try.func30, Try.ntmps30
    go_wp2_with (first | (go_at_call 60; refine (i_isSpan _ _ _).mono ?_; rintro e w' ⟨rfl, rfl⟩) | (go_at_call 46; refine (HA.out _ HS).mono ?_; rintro e w1 ⟨rfl, hb1⟩))
    go_loopw [9, 22] (fun v i wr => ∃ (k : Nat) (x : Value) (L : List Int), k ≤ n ∧ i = .int .i64 k ∧ x = v ∧ Below W.heap.size W wr ∧ L.length ≤ k ∧ Hid (picks (fun k => inB (lv k) f u) k = L) ∧ Out wr W.heap.size 2 1 x L.length (ic (lz L))) (fun _ i _ => n - (intOf i).toNat)
    case atStart => exact ⟨0, _, [], Nat.zero_le _, rfl, rfl, hb1, Nat.le_refl _, picks_zero _, Out.nil _ _ _ _ _⟩
    case round =>
      obtain ⟨k, x, L, hk, rfl, rfl, hb, hL, HL, hown⟩ := hrel
      by_cases hlt : k < n
      · rcases hr with h0 | ⟨g, off, rfl, hr⟩
        · omega
        obtain ⟨hs0, hs1⟩ := rcells (hr.kept hb) hlt
        clear hr
        cases hp : inB (lv k) f u
        · have HN : Hid (picks (fun k => inB (lv k) f u) (k + 1) = L) := by show picks _ _ = _; rw [picks_no hp, HL.out]
          go_wp2_with (first | (go_at_call 53; refine (i_within _ _ _ _).mono ?_; rintro e w' ⟨rfl, rfl⟩))
          go_roundw
          case rel => exact ⟨k + 1, _, L, by omega, by go_num, rfl, (by repeat (first | assumption | exact Below.refl _ _ | refine kept_drew ?_ | refine kept_drewN ?_ _ | refine kept_alloc ?_ _ | refine kept_set ?_ ?_ _ | (simp; done) | (simp; omega) | refine kept_trans ?_ (by assumption))), by omega, HN, hown.kept (kept_alloc (Below.refl _ _) _)⟩
          case measure => simp [intOf]; omega
        · have HN : Hid (picks (fun k => inB (lv k) f u) (k + 1) = L ++ [(k : Int)]) := by show picks _ _ = _; rw [picks_yes hp, HL.out]
          have hownA := hown.kept (kept_alloc (Below.refl _ _) (.cells #[.int .i64 (lv k), .int .i64 (tk k)] 48))
          have hbA : Below W.heap.size W (wr.alloc (.cells #[.int .i64 (lv k), .int .i64 (tk k)] 48)) := kept_alloc hb _
          have hlaid : ∀ j u, [Value.int .i64 k][j]? = some u → ((wr.alloc (.cells #[.int .i64 (lv k), .int .i64 (tk k)] 48)).alloc (.cells #[.int .i64 k] 2)).cell? ((⟨wr.heap.size + 1, 0, none⟩ : Addr).add j) = some u := by
            have h := laid_new (w := wr.alloc (.cells #[.int .i64 (lv k), .int .i64 (tk k)] 48)) (cs := [.int .i64 k]) (t := 2)
            rw [show (wr.alloc (.cells #[.int .i64 (lv k), .int .i64 (tk k)] 48)).heap.size = wr.heap.size + 1 by simp] at h
            exact h
          clear hown
          go_wp2_with (first | (go_at_call 53; refine (i_within _ _ _ _).mono ?_; rintro e w' ⟨rfl, rfl⟩) | (at_builtin; refine wpList_append_own _ rfl _ _ 35 rfl _ 2 i0 _ 1 8 Try.underlying35 hi hz0 hz1 hz2 rfl (by decide) _ _ _ rfl (hownA.row.alloc _) ⟨wr.heap.size + 1, 0, none⟩ 1 1 [.int .i64 k] rfl rfl hlaid (by intro u hu; simp at hu; subst hu; rfl) (by simp only [maxLen]; omega) (by omega) (by have hbs := hbA.size; simp at hbs ⊢; omega) ?_; intro v1 w1 hown1 hgrow1 _))
          have R1 := Out.snocL hown1
          have R2 := below_of_append hbA hownA.row hgrow1
          clear hownA hown1 hgrow1 hb hbA
          go_wp2
          go_roundw
          case rel => exact ⟨k + 1, _, L ++ [(k : Int)], by omega, by go_num, rfl, R2, by simp; omega, HN, R1⟩
          case measure => simp [intOf]; omega
      · obtain rfl : k = n := by omega
        have HE : Hid (between k lv tk f u = (L, 0)) := by have := HT.out; rw [HL.out] at this; exact this
        go_wp2
        refine bodyPost_ret (results_tmp2 rfl _ _ _) rfl ⟨_, by rw [HE.out]; rfl, hb, by rw [HE.out]; exact hown⟩

set_option maxHeartbeats 1000000 in
theorem s_RidesBetween (v : Value) (n : Nat) (lv tk : Nat → Int) (f u : Int) (W : World) (hs : Sl W v 2 n (rc lv tk)) : Calls Try.prog 29 #[v, .int .i64 f, .int .i64 u] W (BetweenPost n lv tk f u W) := by
  obtain ⟨i0, hi, hz0, hz1, hz2⟩ := info_parts infoInt
  have HA := Lib.hid (s_l19Ask v n lv tk f)
  have HS := hs
  obtain ⟨hn, ao, cap, rfl, hr⟩ := hs
  rcases between_cases2 n lv tk f u with ⟨c, hc, hc1, HT⟩ | ⟨hc, hu, HT⟩ | ⟨hc, hu, h24, HT⟩
  · rw [hc] at HA
    clear hr
    go_enter Try.func29, Try.ntmps29
    go_wp2_with (first | (go_at_call 50; refine (s_l00In _ _ _ _).mono ?_; rintro e w' ⟨rfl, rfl⟩) | (go_at_call 45; refine (HA.out _ HS).mono ?_; rintro e w1 ⟨rfl, hb1⟩))
    refine bodyPost_ret (results_tmp2 rfl _ _ _) rfl ⟨_, by rw [HT.out]; rfl, hb1, by rw [HT.out]; exact Out.nil _ _ _ _ _⟩
  · rw [hc] at HA
    clear hr
    go_enter Try.func29, Try.ntmps29
    go_wp2_with (first | (go_at_call 50; refine (s_l00In _ _ _ _).mono ?_; rintro e w' ⟨rfl, rfl⟩) | (go_at_call 45; refine (HA.out _ HS).mono ?_; rintro e w1 ⟨rfl, hb1⟩))
    refine bodyPost_ret (results_tmp2 rfl _ _ _) rfl ⟨_, by rw [HT.out]; rfl, hb1, by rw [HT.out]; exact Out.nil _ _ _ _ _⟩
  · rw [hc] at HA
    go_enter Try.func29, Try.ntmps29
    go_wp2_with (first | (go_at_call 50; refine (s_l00In _ _ _ _).mono ?_; rintro e w' ⟨rfl, rfl⟩) | (go_at_call 45; refine (HA.out _ HS).mono ?_; rintro e w1 ⟨rfl, hb1⟩))
    go_loopw [9, 10] (fun v i wr => ∃ (k : Nat) (x : Value) (L : List Int), k ≤ n ∧ i = .int .i64 k ∧ x = v ∧ Below W.heap.size W wr ∧ L.length ≤ k ∧ Hid (picks (fun k => inB (lv k) f u) k = L) ∧ Out wr W.heap.size 2 1 x L.length (ic (lz L))) (fun _ i _ => n - (intOf i).toNat)
    case atStart => exact ⟨0, _, [], Nat.zero_le _, rfl, rfl, (by repeat (first | assumption | exact Below.refl _ _ | refine kept_drew ?_ | refine kept_drewN ?_ _ | refine kept_alloc ?_ _ | refine kept_set ?_ ?_ _ | (simp; done) | (simp; omega) | refine kept_trans ?_ (by assumption))), Nat.le_refl _, picks_zero _, Out.empty _ _ _ _ _ hb1.size⟩
    case round =>
      obtain ⟨k, x, L, hk, rfl, rfl, hb, hL, HL, hown⟩ := hrel
      by_cases hlt : k < n
      · rcases hr with h0 | ⟨g, off, rfl, hr⟩
        · omega
        obtain ⟨hs0, hs1⟩ := rcells (hr.kept hb) hlt
        clear hr
        cases hp : inB (lv k) f u
        · have HN : Hid (picks (fun k => inB (lv k) f u) (k + 1) = L) := by show picks _ _ = _; rw [picks_no hp, HL.out]
          go_wp2_with (first | (go_at_call 50; refine (s_l00In _ _ _ _).mono ?_; rintro e w' ⟨rfl, rfl⟩))
          go_roundw
          case rel => exact ⟨k + 1, _, L, by omega, by go_num, rfl, (by repeat (first | assumption | exact Below.refl _ _ | refine kept_drew ?_ | refine kept_drewN ?_ _ | refine kept_alloc ?_ _ | refine kept_set ?_ ?_ _ | (simp; done) | (simp; omega) | refine kept_trans ?_ (by assumption))), by omega, HN, hown⟩
          case measure => simp [intOf]; omega
        · have HN : Hid (picks (fun k => inB (lv k) f u) (k + 1) = L ++ [(k : Int)]) := by show picks _ _ = _; rw [picks_yes hp, HL.out]
          go_wp2_with (first | (go_at_call 50; refine (s_l00In _ _ _ _).mono ?_; rintro e w' ⟨rfl, rfl⟩) | (at_builtin; go_must (refine wpList_append_own _ rfl _ _ 35 rfl _ 2 i0 _ 1 8 Try.underlying35 hi hz0 hz1 hz2 rfl (by decide) _ _ _ rfl (hown.row.alloc _) ⟨wr.heap.size, 0, none⟩ 1 1 [.int .i64 k] rfl rfl laid_new (by intro u hu; simp at hu; first | (rcases hu with rfl | rfl <;> rfl) | (subst hu; rfl) | (rcases hu with rfl | rfl | rfl | rfl <;> rfl)) (by simp only [maxLen]; omega) (by omega) (by have hbs := hb.size; simp; omega) ?_); intro v1 w1 hown1 hgrow1 _))
          have R1 := Out.snocL hown1
          have R2 := below_of_append hb hown.row hgrow1
          clear hown hown1 hgrow1 hb
          go_wp2
          go_roundw
          case rel => exact ⟨k + 1, _, L ++ [(k : Int)], by omega, by go_num, rfl, R2, by simp; omega, HN, R1⟩
          case measure => simp [intOf]; omega
      · obtain rfl : k = n := by omega
        have HE : Hid (between k lv tk f u = (L, 0)) := by have := HT.out; rw [HL.out] at this; exact this
        go_wp2
        refine bodyPost_ret (results_tmp2 rfl _ _ _) rfl ⟨_, by rw [HE.out]; rfl, hb, by rw [HE.out]; exact hown⟩

def bet (n : Nat) (lv tk : Nat → Int) (f u : Int) : Nat × Int := ((between n lv tk f u).1.length, (between n lv tk f u).2)
def betZ (n : Nat) (lv tk : Nat → Int) (f u : Int) : Nat → Int := lz (between n lv tk f u).1
def BetPost (n : Nat) (lv tk : Nat → Int) (f u : Int) (W : World) (en : Ending) (W' : World) : Prop :=
  ∃ v, en = .returned (.tuple #[v, .int .i64 (bet n lv tk f u).2]) ∧ Below W.heap.size W W' ∧ Out W' W.heap.size 2 1 v (bet n lv tk f u).1 (ic (betZ n lv tk f u))
theorem i_RidesBetween2 (v : Value) (n : Nat) (lv tk : Nat → Int) (f u : Int) (W : World) (hs : Sl W v 2 n (rc lv tk)) : Calls Try.prog 30 #[v, .int .i64 f, .int .i64 u] W (BetPost n lv tk f u W) := (i_RidesBetween v n lv tk f u W hs).mono fun _ _ h => h
theorem s_RidesBetween2 (v : Value) (n : Nat) (lv tk : Nat → Int) (f u : Int) (W : World) (hs : Sl W v 2 n (rc lv tk)) : Calls Try.prog 29 #[v, .int .i64 f, .int .i64 u] W (BetPost n lv tk f u W) := (s_RidesBetween v n lv tk f u W hs).mono fun _ _ h => h
theorem bet_small (n : Nat) (lv tk : Nat → Int) (f u : Int) (hn : n ≤ 17592186044416) : (bet n lv tk f u).1 ≤ 17592186044416 := by
  show (between n lv tk f u).1.length ≤ _
  have := picks_len (fun k => inB (lv k) f u) n
  unfold between
  split <;> simp <;> omega
attribute [irreducible] bet betZ

theorem l_RidesBetween {W : World} (v : Value) (n : Nat) (lv tk : Nat → Int) (hs : Sl W v 2 n (rc lv tk)) (_hz : True) (f u : Int) : Calls Try.prog 8 #[v, .int .i64 f, .int .i64 u] W (Truly W) := by
  have HS := hs
  have hn := hs.1
  have hm := bet_small n lv tk f u hn
  generalize hnn : (bet n lv tk f u).1 = m at *
  generalize hc : (bet n lv tk f u).2 = c at *
  generalize hz : betZ n lv tk f u = z at *
  have hP : ∀ w en w', BetPost n lv tk f u w en w' → ∃ g, en = .returned (.tuple #[g, .int .i64 c]) ∧ Below w.heap.size w w' ∧ Out w' w.heap.size 2 1 g m (ic z) := by
    intro w en w' ⟨g, h1, h2, h3⟩
    rw [hc] at h1; rw [hnn, hz] at h3
    exact ⟨g, h1, h2, h3⟩
  clear hnn hc hz
  have HQ : Hid (∀ w q, Sl w q 2 n (rc lv tk) → Calls Try.prog 29 #[q, .int .i64 f, .int .i64 u] w fun en w' => ∃ g, en = .returned (.tuple #[g, .int .i64 c]) ∧ Below w.heap.size w w' ∧ Out w' w.heap.size 2 1 g m (ic z)) := fun w q h => (s_RidesBetween2 q n lv tk f u w h).mono (hP w)
  have HI : Hid (∀ w q, Sl w q 2 n (rc lv tk) → Calls Try.prog 30 #[q, .int .i64 f, .int .i64 u] w fun en w' => ∃ g, en = .returned (.tuple #[g, .int .i64 c]) ∧ Below w.heap.size w w' ∧ Out w' w.heap.size 2 1 g m (ic z)) := fun w q h => (i_RidesBetween2 q n lv tk f u w h).mono (hP w)
  clear hP
  obtain ⟨-, ao, cap, rfl, hr⟩ := hs
  clear hr
  have hm' : (m : Int) ≤ 17592186044416 := by omega
  by_cases hl : (1048576 : Int) < n
  · go_enter Try.func8, Try.ntmps8
    go_wp2_with fail
    refine (l_szRideS_no _ _ _ _ _ (by omega)).mono ?_
    rintro e w1 ⟨rfl, rfl⟩
    go_wp2_with fail
    go_ret
    exact ⟨rfl, (by repeat (first | assumption | exact Below.refl _ _ | refine kept_drew ?_ | refine kept_drewN ?_ _ | refine kept_alloc ?_ _ | refine kept_set ?_ ?_ _ | (simp; done) | (simp; omega) | refine kept_trans ?_ (by assumption)))⟩
  · go_enter Try.func8, Try.ntmps8
    go_wp2_with fail
    refine (l_szRideS_yes _ _ _ _ _ (by omega)).mono ?_
    rintro e w0 ⟨rfl, rfl⟩
    go_wp2_with fail
    refine (toRideS_sl _ n lv tk _ HS).mono ?_
    rintro e w1 ⟨rfl, hb1, hs1, -⟩
    go_wp2_with fail
    refine (HQ.out _ _ hs1).mono ?_
    rintro e w2 ⟨v0, rfl, hb2, ho2⟩
    have HS2 := (HS.kept hb1).kept hb2
    go_wp2_with fail
    refine (toRideS_any _ n lv tk _ HS2).mono ?_
    rintro e w3 ⟨rfl, hb3, hr3⟩
    have hs3 : Hid (Sl w3 (.slice (some ⟨w2.heap.size, 0, none⟩) n n) 2 n (rc lv tk)) := Sl.of_row hn (Row.of_rowIs hr3)
    have hm3 : Hid (Mine w3 (.slice (some ⟨w2.heap.size, 0, none⟩) n n) 2 n) := Mine.of_row hn hr3 (Nat.le_refl _)
    have hs3 := hs3.out
    have hm3 := hm3.out
    have l3 := hr3.lt
    clear hr3
    go_wp2_with fail
    refine (HI.out _ _ hs3).mono ?_
    rintro e w4 ⟨g0, rfl, hb4, ho4⟩
    have s0 := (((ho2.sl hm).kept hb3).kept hb4)
    have sg := ho4.sl hm
    have mg := ho4.mine hm
    go_wp2_with fail
    refine (eqInt64S_any _ _ m z _ sg s0).mono ?_
    rintro e w5 ⟨rfl, hb5⟩
    have HS5 := ((HS2.kept hb3).kept hb4).kept hb5
    go_wp2_with fail
    refine (toRideS_sl _ n lv tk _ HS5).mono ?_
    rintro e w6 ⟨rfl, hb6, hs6, -⟩
    have x6 := ((hs3.kept hb4).kept hb5).kept hb6
    go_wp2_with fail
    refine (eqRideS_any _ _ n lv tk _ x6 hs6).mono ?_
    rintro e w7 ⟨rfl, hb7⟩
    have mx7 := (((hm3.kept hb4).kept hb5).kept hb6).kept hb7
    go_wp2_with fail
    refine (markRideS_any _ n _ _ mx7 (by omega) (by omega)).mono ?_
    rintro e w8 ⟨rfl, hg8, s8, m8⟩
    have z2 := hb1.size
    have z3 := hb2.size
    have z4 := hb3.size
    have z5 := hb4.size
    have z6 := hb5.size
    have z7 := hb6.size
    have z8 := hb7.size
    have b8 : Below w2.heap.size w7 w8 := below_of_grown hg8 (by omega) (fun b hb => by simp [Value.ownBlock] at hb; omega)
    have k8 : Below w2.heap.size w2 w8 := (kept_trans (kept_trans (kept_trans (kept_trans hb3 hb4) hb5) hb6) hb7).trans b8
    have s08 := (ho2.sl hm).kept k8
    have far8 : ∀ b, g0.ownBlock = some b → some b ≠ (Value.slice (some ⟨w2.heap.size, 0, none⟩) n n).ownBlock := fun b hb he => by
      have h1 := (ho4.base b hb).1
      simp [Value.ownBlock] at he
      omega
    have sg8 := (((sg.kept hb5).kept hb6).kept hb7).far hg8 far8
    have mg8 := (((mg.kept hb5).kept hb6).kept hb7).far hg8 far8
    go_wp2_with fail
    refine (eqInt64S_any _ _ m z _ sg8 s08).mono ?_
    rintro e w9 ⟨rfl, hb9⟩
    go_wp2_with fail
    refine (markInt64S_any _ m _ _ (mg8.kept hb9) (by omega) (by omega)).mono ?_
    rintro e wa ⟨rfl, hga, sa, ma⟩
    have z9 := hg8.size
    have za := hb9.size
    have ba : Below w3.heap.size w9 wa := below_of_grown hga (by omega) (fun b hb => (ho4.base b hb).1)
    go_wp2_with fail
    refine (heldInt64S_any _ m _ _ sa (by omega) (by omega)).mono ?_
    rintro e wb ⟨rfl, hbb⟩
    have kb : Below w2.heap.size w2 wb := kept_trans ((kept_trans k8 hb9).trans (ba.mono (by omega))) hbb
    have KB : Below W.heap.size W wb := kept_trans (kept_trans hb1 hb2) kb
    go_wp2_with fail
    refine (toRideS_sl _ n lv tk _ (HS.kept KB)).mono ?_
    rintro e wc ⟨rfl, hbc, hsc, -⟩
    go_wp2_with fail
    refine (HI.out _ _ hsc).mono ?_
    rintro e wd ⟨h0, rfl, hbd, hod⟩
    have s0d := (ho2.sl hm).kept (kept_trans (kept_trans kb hbc) hbd)
    go_wp2_with fail
    refine (eqInt64S_any _ _ m z _ (hod.sl hm) s0d).mono ?_
    rintro e we ⟨rfl, hbe⟩
    go_wp2_with fail
    refine (heldInt64S_any _ m _ _ ((((sa.kept hbb).kept hbc).kept hbd).kept hbe) (by omega) (by omega)).mono ?_
    rintro e wf ⟨rfl, hbf⟩
    go_wp2_with fail
    go_ret
    exact ⟨rfl, kept_trans (kept_trans (kept_trans (kept_trans KB hbc) hbd) hbe) hbf⟩


end Go.Proofs.Ytcbceodlakbpdaa
