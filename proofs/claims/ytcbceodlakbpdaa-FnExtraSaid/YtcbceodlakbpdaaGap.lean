/- The first gap for an extra ride. -/
import Derived.Test.YtcbceodlakbpdaaFree
namespace Go.Proofs.Ytcbceodlakbpdaa
open Go.RowKit Go.Deep
set_option linter.unusedVariables false

def gapOk (f t u : Int) : Bool := inB f 0 1440 && inB t 1 1440 && inB u 0 1440
theorem gapOk_cases (f t u : Int) : (inB f 0 1440 = false ∧ Hid (gapOk f t u = false)) ∨ (inB f 0 1440 = true ∧ inB t 1 1440 = false ∧ Hid (gapOk f t u = false)) ∨
    (inB f 0 1440 = true ∧ inB t 1 1440 = true ∧ inB u 0 1440 = false ∧ Hid (gapOk f t u = false)) ∨ (inB f 0 1440 = true ∧ inB t 1 1440 = true ∧ inB u 0 1440 = true ∧ Hid (gapOk f t u = true)) := by
  have key : gapOk f t u = (inB f 0 1440 && inB t 1 1440 && inB u 0 1440) := rfl
  cases h1 : inB f 0 1440
  · exact .inl ⟨rfl, by rw [h1] at key; exact key⟩
  · cases h2 : inB t 1 1440
    · exact .inr (.inl ⟨rfl, rfl, by rw [h1, h2] at key; exact key⟩)
    · cases h3 : inB u 0 1440
      · exact .inr (.inr (.inl ⟨rfl, rfl, rfl, by rw [h1, h2, h3] at key; exact key⟩))
      · exact .inr (.inr (.inr ⟨rfl, rfl, rfl, by rw [h1, h2, h3] at key; exact key⟩))
attribute [irreducible] gapOk
/-- The first gap from f on: its minute and the code. -/
def gapP (n : Nat) (lv tk : Nat → Int) (f t u : Int) : Nat → Bool := fun j => hasT n lv tk (f + j) t u
def gapN (f t : Int) : Nat := (1441 - t - f).toNat
def gapIn (n : Nat) (lv tk : Nat → Int) (f t u : Int) : Int × Int := if firstTo (gapP n lv tk f t u) (gapN f t) < gapN f t then (f + firstTo (gapP n lv tk f t u) (gapN f t), 0) else (0, 3)
def gap (n : Nat) (lv tk : Nat → Int) (f t u : Int) : Int × Int := if tAsk n lv tk (gapOk f t u) = 0 then gapIn n lv tk f t u else (0, tAsk n lv tk (gapOk f t u))
theorem gap_at {n : Nat} {lv tk : Nat → Int} {f t u : Int} {j : Nat} (h : f + j + t ≤ 1440) (hno : ∀ i, i < j → gapP n lv tk f t u i = false) (hy : hasT n lv tk (f + j) t u = true) : gapIn n lv tk f t u = (f + j, 0) := by
  have hj : j < gapN f t := by unfold gapN; omega
  unfold gapIn
  rw [firstTo_eq (Nat.le_of_lt hj) hno (fun _ => hy), if_pos hj]
theorem gap_none {n : Nat} {lv tk : Nat → Int} {f t u : Int} {j : Nat} (h : 1440 < f + j + t) (hno : ∀ i, i < j → gapP n lv tk f t u i = false) : gapIn n lv tk f t u = (0, 3) := by
  have hj : gapN f t ≤ j := by unfold gapN; omega
  unfold gapIn
  rw [firstTo_eq (Nat.le_refl _) (fun i hi => hno i (by omega)) (fun h => absurd h (Nat.lt_irrefl _)), if_neg (Nat.lt_irrefl _)]
theorem gap_cases (n : Nat) (lv tk : Nat → Int) (f t u : Int) :
    (∃ c, tAsk n lv tk (gapOk f t u) = c ∧ (1 ≤ c ∧ c ≤ 2) ∧ Hid (gap n lv tk f t u = (0, c))) ∨
    (tAsk n lv tk (gapOk f t u) = 0 ∧ Hid (Bds n lv tk) ∧ (0 ≤ f ∧ f ≤ 1440 ∧ 1 ≤ t ∧ t ≤ 1440 ∧ 0 ≤ u ∧ u ≤ 1440) ∧ Hid (gap n lv tk f t u = gapIn n lv tk f t u)) := by
  rcases tAsk_cases n lv tk (gapOk f t u) with ⟨hv, hf⟩ | ⟨hv, hi, hf⟩ | ⟨hv, hi, hf⟩
  · exact .inl ⟨1, hf.out, by omega, by show gap _ _ _ _ _ _ = _; unfold gap; rw [hf.out]; rfl⟩
  · exact .inl ⟨2, hf.out, by omega, by show gap _ _ _ _ _ _ = _; unfold gap; rw [hf.out]; rfl⟩
  · refine .inr ⟨hf.out, ?_, ?_, by show gap _ _ _ _ _ _ = _; unfold gap; rw [hf.out]; rfl⟩
    · intro i hi
      have h1 := (rideAt_out ((vTable_out hv).2 i hi)).1
      have h2 := vRide_out h1
      omega
    · rcases gapOk_cases f t u with ⟨h1, HV⟩ | ⟨h1, h2, HV⟩ | ⟨h1, h2, h3, HV⟩ | ⟨h1, h2, h3, HV⟩
      · exact absurd (HV.out.symm.trans hi) (by decide)
      · exact absurd (HV.out.symm.trans hi) (by decide)
      · exact absurd (HV.out.symm.trans hi) (by decide)
      · have := inB_out h1; have := inB_out h2; have := inB_out h3; omega
/-- As the reference asks it. -/
theorem gap_cases2 (n : Nat) (lv tk : Nat → Int) (f t u : Int) :
    (∃ c, tAsk n lv tk (inB f 0 1440) = c ∧ (1 ≤ c ∧ c ≤ 2) ∧ Hid (gap n lv tk f t u = (0, c))) ∨
    (tAsk n lv tk (inB f 0 1440) = 0 ∧ inB t 1 1440 = false ∧ Hid (gap n lv tk f t u = (0, 2))) ∨
    (tAsk n lv tk (inB f 0 1440) = 0 ∧ inB t 1 1440 = true ∧ inB u 0 1440 = false ∧ Hid (gap n lv tk f t u = (0, 2))) ∨
    (tAsk n lv tk (inB f 0 1440) = 0 ∧ inB t 1 1440 = true ∧ inB u 0 1440 = true ∧ Hid (Bds n lv tk) ∧ (0 ≤ f ∧ f ≤ 1440 ∧ 1 ≤ t ∧ t ≤ 1440 ∧ 0 ≤ u ∧ u ≤ 1440) ∧ Hid (gap n lv tk f t u = gapIn n lv tk f t u)) := by
  rcases tAsk_cases n lv tk (inB f 0 1440) with ⟨hv, hf⟩ | ⟨hv, hi, hf⟩ | ⟨hv, hi, hf⟩
  · refine .inl ⟨1, hf.out, by omega, ?_⟩
    show gap _ _ _ _ _ _ = _; unfold gap; rw [show tAsk n lv tk (gapOk f t u) = 1 by unfold tAsk; rw [hv]; rfl]; rfl
  · refine .inl ⟨2, hf.out, by omega, ?_⟩
    have e : gapOk f t u = false := by rcases gapOk_cases f t u with ⟨h1, HV⟩ | ⟨h1, h2, HV⟩ | ⟨h1, h2, h3, HV⟩ | ⟨h1, h2, h3, HV⟩ <;> first | exact HV.out | (rw [hi] at h1; cases h1)
    show gap _ _ _ _ _ _ = _; unfold gap; rw [show tAsk n lv tk (gapOk f t u) = 2 by unfold tAsk; rw [hv, e]; rfl]; rfl
  · have key : ∀ b, gapOk f t u = b → tAsk n lv tk (gapOk f t u) = if b then 0 else 2 := fun b hb => by unfold tAsk; rw [hv, hb]; rfl
    rcases gapOk_cases f t u with ⟨h1, HV⟩ | ⟨h1, h2, HV⟩ | ⟨h1, h2, h3, HV⟩ | ⟨h1, h2, h3, HV⟩
    · rw [hi] at h1; cases h1
    · refine .inr (.inl ⟨hf.out, h2, ?_⟩)
      show gap _ _ _ _ _ _ = _; unfold gap; rw [key _ HV.out]; rfl
    · refine .inr (.inr (.inl ⟨hf.out, h2, h3, ?_⟩))
      show gap _ _ _ _ _ _ = _; unfold gap; rw [key _ HV.out]; rfl
    · rcases gap_cases n lv tk f t u with ⟨c, h4, h5, h6⟩ | ⟨h4, h5, h6, h7⟩
      · have := key _ HV.out; rw [h4] at this; simp at this; omega
      · exact .inr (.inr (.inr ⟨hf.out, h2, h3, h5, h6, h7⟩))
attribute [irreducible] gap gapP gapIn

theorem i_FirstGap (v : Value) (n : Nat) (lv tk : Nat → Int) (f t u : Int) (W : World) (hs : Sl W v 2 n (rc lv tk)) : Calls Try.prog 20 #[v, .int .i64 f, .int .i64 t, .int .i64 u] W fun e W' => e = .returned (.tuple #[.int .i64 (gap n lv tk f t u).1, .int .i64 (gap n lv tk f t u).2]) ∧ Below W.heap.size W W' := by
  have HA := Lib.hid (fun w => i_timetabled v n lv tk (gapOk f t u) w)
  have HS := hs
  have HG : Hid (∀ m w, Sl w v 2 n (rc lv tk) → Hid (Bds n lv tk) → (0 ≤ m ∧ m ≤ 1440 ∧ 1 ≤ t ∧ t ≤ 1440 ∧ 0 ≤ u ∧ u ≤ 1440) → Calls Try.prog 54 #[v, .agg #[.int .i64 m, .int .i64 t], .int .i64 u] w fun e W' => e = .returned (.bool (hasT n lv tk m t u)) ∧ Below w.heap.size w W') := fun m w h HB hx => i_hasTurns v n lv tk m t u w h HB hx
  have HP : Hid (∀ j, gapP n lv tk f t u j = hasT n lv tk (f + j) t u) := fun j => by unfold gapP; rfl
  obtain ⟨hn, ao, cap, rfl, hr⟩ := hs
  clear hr
  have HT1 := gap_cases n lv tk f t u
  rcases HT1 with ⟨c, hc, hc1, HT⟩ | ⟨hc, HB, ⟨b1, b2, b3, b4, b5, b6⟩, HT⟩
  · rw [hc] at HA
    clear HG HP
    rcases gapOk_cases f t u with ⟨h1, HV⟩ | ⟨h1, h2, HV⟩ | ⟨h1, h2, h3, HV⟩ | ⟨h1, h2, h3, HV⟩
    all_goals
      rw [HV.out] at HA
      rcases (show c = 1 ∨ c = 2 by omega) with rfl | rfl
      all_goals
        go_enter Try.func20, Try.ntmps20
        go_wp2_with (first | (go_at_call 47; refine (i_isDayMinute _ _).mono ?_; rintro e w' ⟨rfl, rfl⟩) | (go_at_call 53; refine (i_within _ _ _ _).mono ?_; rintro e w' ⟨rfl, rfl⟩) | (go_at_call 46; refine (HA.out _ HS).mono ?_; rintro e w1 ⟨rfl, hb1⟩))
        go_ret2
        exact ⟨by rw [HT.out]; rfl, hb1⟩
  · rw [hc] at HA
    have HV : Hid (gapOk f t u = true) := by
      rcases gapOk_cases f t u with ⟨h1, HV⟩ | ⟨h1, h2, HV⟩ | ⟨h1, h2, h3, HV⟩ | ⟨h1, h2, h3, HV⟩
      · have := inB_yes (n := f) (a := 0) (b := 1440) (by omega) (by omega); rw [h1] at this; cases this
      · have := inB_yes (n := t) (a := 1) (b := 1440) (by omega) (by omega); rw [h2] at this; cases this
      · have := inB_yes (n := u) (a := 0) (b := 1440) (by omega) (by omega); rw [h3] at this; cases this
      · exact HV
    rw [HV.out] at HA
    have i1 := inB_yes (n := f) (a := 0) (b := 1440) (by omega) (by omega)
    have i2 := inB_yes (n := t) (a := 1) (b := 1440) (by omega) (by omega)
    have i3 := inB_yes (n := u) (a := 0) (b := 1440) (by omega) (by omega)
    go_enter Try.func20, Try.ntmps20
    go_wp2_with (first | (go_at_call 47; refine (i_isDayMinute _ _).mono ?_; rintro e w' ⟨rfl, rfl⟩) | (go_at_call 53; refine (i_within _ _ _ _).mono ?_; rintro e w' ⟨rfl, rfl⟩) | (go_at_call 46; refine (HA.out _ HS).mono ?_; rintro e w1 ⟨rfl, hb1⟩))
    clear i1 i2 i3
    go_loopw [11] (fun i wr => ∃ j : Nat, f + j ≤ 1441 ∧ i = .int .i64 (f + j) ∧ Below W.heap.size W wr ∧ Hid (∀ i, i < j → gapP n lv tk f t u i = false)) (fun i _ => (1441 - intOf i).toNat)
    case atStart => exact ⟨0, by omega, by simp, hb1, fun i hi => by omega⟩
    case round =>
      obtain ⟨j, hj, rfl, hb, hno⟩ := hrel
      rcases (show f + j + t ≤ 1440 ∨ 1440 < f + j + t by omega) with hlt | hge
      · have hcall := Lib.hid (HG.out (f + j) wr (HS.kept hb) HB (by omega))
        have hp := HP.out j
        cases hh : hasT n lv tk (f + j) t u
        · rw [hh] at hcall hp
          have HN : Hid (∀ i, i < j + 1 → gapP n lv tk f t u i = false) := fun i hi => by
            by_cases e : i = j
            · rw [e]; exact hp
            · exact hno.out i (by omega)
          clear hp hh
          go_wp2_with (go_at_call 54; refine hcall.out.mono ?_; rintro e w2 ⟨rfl, hb2⟩)
          go_roundw
          case rel => exact ⟨j + 1, by omega, congrArg (Value.int .i64) (by omega), (by repeat (first | assumption | exact Below.refl _ _ | refine kept_drew ?_ | refine kept_drewN ?_ _ | refine kept_alloc ?_ _ | refine kept_set ?_ ?_ _ | (simp; done) | (simp; omega) | refine kept_trans ?_ (by assumption))), HN⟩
          case measure => simp [intOf]; omega
        · have HZ := Lib.hid (gap_at hlt hno.out hh)
          rw [hh] at hcall
          clear hp hh
          go_wp2_with (go_at_call 54; refine hcall.out.mono ?_; rintro e w2 ⟨rfl, hb2⟩)
          go_ret2
          exact ⟨by rw [HT.out, HZ.out]; rfl, (by repeat (first | assumption | exact Below.refl _ _ | refine kept_drew ?_ | refine kept_drewN ?_ _ | refine kept_alloc ?_ _ | refine kept_set ?_ ?_ _ | (simp; done) | (simp; omega) | refine kept_trans ?_ (by assumption)))⟩
      · have HZ := Lib.hid (gap_none hge hno.out)
        go_wp2
        go_ret2
        exact ⟨by rw [HT.out, HZ.out]; rfl, hb⟩

theorem s_FirstGap (v : Value) (n : Nat) (lv tk : Nat → Int) (f t u : Int) (W : World) (hs : Sl W v 2 n (rc lv tk)) : Calls Try.prog 19 #[v, .int .i64 f, .int .i64 t, .int .i64 u] W fun e W' => e = .returned (.tuple #[.int .i64 (gap n lv tk f t u).1, .int .i64 (gap n lv tk f t u).2]) ∧ Below W.heap.size W W' := by
  have HA := Lib.hid (fun w => s_l19Ask v n lv tk f w)
  have HS := hs
  have HG : Hid (∀ m w bx, Sl w v 2 n (rc lv tk) → Hid (Bds n lv tk) → (0 ≤ m ∧ m ≤ 1440 ∧ 1 ≤ t ∧ t ≤ 1440 ∧ 0 ≤ u ∧ u ≤ 1440) → w.cell? ⟨bx, 0, none⟩ = some (.int .i64 m) → w.cell? ⟨bx, 1, none⟩ = some (.int .i64 t) → Calls Try.prog 52 #[v, .pointer (some ⟨bx, 0, none⟩), .int .i64 u] w fun e W' => e = .returned (.bool (hasT n lv tk m t u)) ∧ Below w.heap.size w W') := fun m w bx h HB hx c0 c1 => s_l19Free v n lv tk m t u bx w h HB hx c0 c1
  have HP : Hid (∀ j, gapP n lv tk f t u j = hasT n lv tk (f + j) t u) := fun j => by unfold gapP; rfl
  obtain ⟨hn, ao, cap, rfl, hr⟩ := hs
  clear hr
  have HT1 := gap_cases2 n lv tk f t u
  rcases HT1 with ⟨c, hc, hc1, HT⟩ | ⟨hc, h2, HT⟩ | ⟨hc, h2, h3, HT⟩ | ⟨hc, h2, h3, HB, ⟨b1, b2, b3, b4, b5, b6⟩, HT⟩
  · rw [hc] at HA
    clear HG HP
    rcases (show c = 1 ∨ c = 2 by omega) with rfl | rfl
    all_goals
      go_enter Try.func19, Try.ntmps19
      go_wp2_with (first | (go_at_call 50; refine (s_l00In _ _ _ _).mono ?_; rintro e w' ⟨rfl, rfl⟩) | (go_at_call 51; refine (s_l19Minute _ _).mono ?_; rintro e w' ⟨rfl, rfl⟩) | (go_at_call 45; refine (HA.out _ HS).mono ?_; rintro e w1 ⟨rfl, hb1⟩))
      go_ret2
      exact ⟨by rw [HT.out]; rfl, hb1⟩
  · rw [hc] at HA
    clear HG HP
    go_enter Try.func19, Try.ntmps19
    go_wp2_with (first | (go_at_call 50; refine (s_l00In _ _ _ _).mono ?_; rintro e w' ⟨rfl, rfl⟩) | (go_at_call 51; refine (s_l19Minute _ _).mono ?_; rintro e w' ⟨rfl, rfl⟩) | (go_at_call 45; refine (HA.out _ HS).mono ?_; rintro e w1 ⟨rfl, hb1⟩))
    go_ret2
    exact ⟨by rw [HT.out]; rfl, hb1⟩
  · rw [hc] at HA
    clear HG HP
    go_enter Try.func19, Try.ntmps19
    go_wp2_with (first | (go_at_call 50; refine (s_l00In _ _ _ _).mono ?_; rintro e w' ⟨rfl, rfl⟩) | (go_at_call 51; refine (s_l19Minute _ _).mono ?_; rintro e w' ⟨rfl, rfl⟩) | (go_at_call 45; refine (HA.out _ HS).mono ?_; rintro e w1 ⟨rfl, hb1⟩))
    go_ret2
    exact ⟨by rw [HT.out]; rfl, hb1⟩
  · rw [hc] at HA
    go_enter Try.func19, Try.ntmps19
    go_wp2_with (first | (go_at_call 50; refine (s_l00In _ _ _ _).mono ?_; rintro e w' ⟨rfl, rfl⟩) | (go_at_call 51; refine (s_l19Minute _ _).mono ?_; rintro e w' ⟨rfl, rfl⟩) | (go_at_call 45; refine (HA.out _ HS).mono ?_; rintro e w1 ⟨rfl, hb1⟩))
    clear h2 h3
    go_loopw [11] (fun i wr => ∃ j : Nat, f + j ≤ 1441 ∧ i = .int .i64 (f + j) ∧ Below W.heap.size W wr ∧ Hid (∀ i, i < j → gapP n lv tk f t u i = false)) (fun i _ => (1441 - intOf i).toNat)
    case atStart => exact ⟨0, by omega, by simp, hb1, fun i hi => by omega⟩
    case round =>
      obtain ⟨j, hj, rfl, hb, hno⟩ := hrel
      rcases (show f + j + t ≤ 1440 ∨ 1440 < f + j + t by omega) with hlt | hge
      · have y0 : (wr.alloc (.cells #[.int .i64 (f + j), .int .i64 t] 48)).cell? ⟨wr.heap.size, 0, none⟩ = some (.int .i64 (f + j)) := by rw [World.cell?, show (wr.alloc (.cells #[.int .i64 (f + j), .int .i64 t] 48)).heap[wr.heap.size]? = some (.cells #[.int .i64 (f + j), .int .i64 t] 48 (0, 0)) from heap_alloc_new wr _]; rfl
        have y1 : (wr.alloc (.cells #[.int .i64 (f + j), .int .i64 t] 48)).cell? ⟨wr.heap.size, 1, none⟩ = some (.int .i64 t) := by rw [World.cell?, show (wr.alloc (.cells #[.int .i64 (f + j), .int .i64 t] 48)).heap[wr.heap.size]? = some (.cells #[.int .i64 (f + j), .int .i64 t] 48 (0, 0)) from heap_alloc_new wr _]; rfl
        have hcall := Lib.hid (HG.out (f + j) _ wr.heap.size (HS.kept (kept_alloc hb _)) HB (by omega) y0 y1)
        have hp := HP.out j
        clear y0 y1
        cases hh : hasT n lv tk (f + j) t u
        · rw [hh] at hcall hp
          have HN : Hid (∀ i, i < j + 1 → gapP n lv tk f t u i = false) := fun i hi => by
            by_cases e : i = j
            · rw [e]; exact hp
            · exact hno.out i (by omega)
          clear hp hh
          go_wp2_with (go_at_call 52; refine hcall.out.mono ?_; rintro e w2 ⟨rfl, hb2⟩)
          go_roundw
          case rel => exact ⟨j + 1, by omega, congrArg (Value.int .i64) (by omega), kept_trans (kept_alloc hb _) hb2, HN⟩
          case measure => simp [intOf]; omega
        · have HZ := Lib.hid (gap_at hlt hno.out hh)
          rw [hh] at hcall
          clear hp hh
          go_wp2_with (go_at_call 52; refine hcall.out.mono ?_; rintro e w2 ⟨rfl, hb2⟩)
          go_ret2
          exact ⟨by rw [HT.out, HZ.out]; rfl, kept_trans (kept_alloc hb _) hb2⟩
      · have HZ := Lib.hid (gap_none hge hno.out)
        go_wp2
        go_ret2
        exact ⟨by rw [HT.out, HZ.out]; rfl, hb⟩

theorem l_FirstGap {W : World} (v : Value) (n : Nat) (lv tk : Nat → Int) (hs : Sl W v 2 n (rc lv tk)) (_hz : True) (f t u : Int) : Calls Try.prog 5 #[v, .int .i64 f, .int .i64 t, .int .i64 u] W (Truly W) :=
  l_FirstGap_of v n lv tk f t u hs _ _ (fun w q h => s_FirstGap q n lv tk f t u w h) (fun w q h => i_FirstGap q n lv tk f t u w h)

end Go.Proofs.Ytcbceodlakbpdaa
