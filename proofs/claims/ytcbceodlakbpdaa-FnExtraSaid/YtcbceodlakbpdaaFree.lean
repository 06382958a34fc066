/- Whether an extra ride has its turns, and the first gap. -/
import Derived.Test.YtcbceodlakbpdaaLate
namespace Go.Proofs.Ytcbceodlakbpdaa
open Go.RowKit Go.Deep
set_option linter.unusedVariables false

theorem containsFunc_rides (g : FuncId) (caps : Array Value) (p : Nat → Bool) (v : Value) (n : Nat) (lv tk : Nat → Int) (W : World) (hs : Sl W v 2 n (rc lv tk)) (hp : Answers W g caps n (rv lv tk) p) :
    Calls Try.prog 69 #[v, .func (.func g) #[] caps] W fun e W' => e = .returned (.bool (!allTo (fun i => !p i) n)) ∧ Below W.heap.size W W' := by
  have hc := Lib.hid (indexFunc_rides g caps p v n lv tk W hs hp)
  have hg := Lib.hid (idxTo_ge (p := p) (n := n))
  obtain ⟨-, ao, cap, rfl, hr⟩ := hs
  clear hr hp
  go_enter Try.func69, Try.ntmps69
  go_wp2_with (go_at_call 48; refine hc.out.mono ?_; rintro e w1 ⟨rfl, hb1⟩)
  go_ret
  exact ⟨by rw [← hg.out]; rfl, hb1⟩

/-- A ride and an extra one (l, t) are too near to each other. -/
def busyP (lv tk : Nat → Int) (l t u : Int) : Nat → Bool := fun i => decide (lv i < l + t + u) && decide (l < lv i + tk i + u)
def hasT (n : Nat) (lv tk : Nat → Int) (l t u : Int) : Bool := allTo (fun i => !busyP lv tk l t u i) n
def Bds (n : Nat) (lv tk : Nat → Int) : Prop := ∀ i, i < n → 0 ≤ lv i ∧ lv i ≤ 1440 ∧ 1 ≤ tk i ∧ tk i ≤ 1440

theorem i_hasTurns1 (a b l t u : Int) (bx bt : Nat) (W : World) (c0 : W.cell? ⟨bx, 0, none⟩ = some (.int .i64 l)) (c1 : W.cell? ⟨bx, 1, none⟩ = some (.int .i64 t)) (c2 : W.cell? ⟨bt, 0, none⟩ = some (.int .i64 u))
    (hb : 0 ≤ a ∧ a ≤ 1440 ∧ 1 ≤ b ∧ b ≤ 1440) (hx : 0 ≤ l ∧ l ≤ 1440 ∧ 1 ≤ t ∧ t ≤ 1440 ∧ 0 ≤ u ∧ u ≤ 1440) :
    Calls Try.prog 70 #[.agg #[.int .i64 a, .int .i64 b], .pointer (some ⟨bx, 0, none⟩), .pointer (some ⟨bt, 0, none⟩)] W fun e W' => e = .returned (.bool (decide (a < l + t + u) && decide (l < a + b + u))) ∧ Below W.heap.size W W' := by
  obtain ⟨h1, h2, h3, h4⟩ := hb
  obtain ⟨h5, h6, h7, h8, h9, h10⟩ := hx
  have q0 := cell_kept (kept_alloc (Below.refl W.heap.size W) (.cells #[.int .i64 a, .int .i64 b] 48)) c0
  have q1 := cell_kept (kept_alloc (Below.refl W.heap.size W) (.cells #[.int .i64 a, .int .i64 b] 48)) c1
  have q2 := cell_kept (kept_alloc (Below.refl W.heap.size W) (.cells #[.int .i64 a, .int .i64 b] 48)) c2
  have k0 : ∀ dd os, (Go.Sort.grow (redrawn (W.alloc (.cells #[.int .i64 a, .int .i64 b] 48)) dd) os).cell? ⟨W.heap.size, 0, none⟩ = some (.int .i64 a) := fun dd os => boxed 0 _ rfl dd os
  have k1 : ∀ dd os, (Go.Sort.grow (redrawn (W.alloc (.cells #[.int .i64 a, .int .i64 b] 48)) dd) os).cell? ⟨W.heap.size, 1, none⟩ = some (.int .i64 b) := fun dd os => boxed 1 _ rfl dd os
  have k2 := cell_regrown q0
  have k3 := cell_regrown q1
  have k4 := cell_regrown q2
  have e1 : IntKind.i64.wrap (l + t + u) = l + t + u := IntWalk.i64_in _ (by omega)
  have e2 : IntKind.i64.wrap (a + b + u) = a + b + u := IntWalk.i64_in _ (by omega)
  clear q0 q1 q2 c0 c1 c2
  rcases (show a < l + t + u ∨ l + t + u ≤ a by omega) with hc | hc
  · have hd : decide (a < l + t + u) = true := by simp; omega
    rcases (show l < a + b + u ∨ a + b + u ≤ l by omega) with hc2 | hc2
    all_goals
      go_enter Try.func70, Try.ntmps70
      go_wp2_with fail
      refine wp_region_quiet_below (by kernel_rfl) (by kernel_rfl) ?_
      repeat (go_big_quiet_step ((first | (go_at_call 55; exact Calls.regrown_of (i_ends _ _ _ (by omega))))))
      refine wpQuiet_nil ?_
      intro w2 hw2
      have hk := below_of_regrown hw2
      clear hw2 k0 k1 k2 k3 k4
      obtain ⟨hc, hf⟩ := bcell hk
      have hz := hk.size
      try simp at hz
      clear e1 e2
      go_wp2_with fail
      go_ret
      exact ⟨ret_bool (by simp <;> omega), (by repeat (first | assumption | exact Below.refl _ _ | refine kept_drew ?_ | refine kept_drewN ?_ _ | refine kept_alloc ?_ _ | refine kept_set ?_ ?_ _ | (simp; done) | (simp; omega) | refine kept_trans ?_ (by assumption)))⟩
  · have hd : decide (a < l + t + u) = false := by simp; omega
    go_enter Try.func70, Try.ntmps70
    go_wp2_with fail
    refine wp_region_quiet_below (by kernel_rfl) (by kernel_rfl) ?_
    repeat (go_big_quiet_step ((first | (go_at_call 55; exact Calls.regrown_of (i_ends _ _ _ (by omega))))))
    refine wpQuiet_nil ?_
    intro w2 hw2
    have hk := below_of_regrown hw2
    clear hw2 k0 k1 k2 k3 k4
    obtain ⟨hc, hf⟩ := bcell hk
    have hz := hk.size
    try simp at hz
    clear e1 e2
    go_wp2_with fail
    go_ret
    exact ⟨ret_bool (by simp <;> omega), (by repeat (first | assumption | exact Below.refl _ _ | refine kept_drew ?_ | refine kept_drewN ?_ _ | refine kept_alloc ?_ _ | refine kept_set ?_ ?_ _ | (simp; done) | (simp; omega) | refine kept_trans ?_ (by assumption)))⟩

theorem i_hasTurns (v : Value) (n : Nat) (lv tk : Nat → Int) (l t u : Int) (W : World) (hs : Sl W v 2 n (rc lv tk)) (HB : Hid (Bds n lv tk)) (hx : 0 ≤ l ∧ l ≤ 1440 ∧ 1 ≤ t ∧ t ≤ 1440 ∧ 0 ≤ u ∧ u ≤ 1440) :
    Calls Try.prog 54 #[v, .agg #[.int .i64 l, .int .i64 t], .int .i64 u] W fun e W' => e = .returned (.bool (hasT n lv tk l t u)) ∧ Below W.heap.size W W' := by
  have HX := Lib.hid hx
  clear hx
  have HC : Hid (∀ w bx bt, Sl w v 2 n (rc lv tk) → w.cell? ⟨bx, 0, none⟩ = some (.int .i64 l) → w.cell? ⟨bx, 1, none⟩ = some (.int .i64 t) → w.cell? ⟨bt, 0, none⟩ = some (.int .i64 u) →
      Calls Try.prog 69 #[v, .func (.func 70) #[] #[.pointer (some ⟨bx, 0, none⟩), .pointer (some ⟨bt, 0, none⟩)]] w fun e W' => e = .returned (.bool (!hasT n lv tk l t u)) ∧ Below w.heap.size w W') := fun w bx bt h c0 c1 c2 =>
    containsFunc_rides 70 #[.pointer (some ⟨bx, 0, none⟩), .pointer (some ⟨bt, 0, none⟩)] (busyP lv tk l t u) v n lv tk w h ⟨enters Try.func70 (by kernel_rfl) rfl, fun i hi w1 hb => i_hasTurns1 (lv i) (tk i) l t u bx bt w1 (cell_kept hb c0) (cell_kept hb c1) (cell_kept hb c2) (HB.out i hi) HX.out⟩
  have HS := hs
  have q0 : Sl ((W.alloc (.cells #[.int .i64 l, .int .i64 t] 48)).alloc (.cells #[.int .i64 u] 2)) v 2 n (rc lv tk) := HS.kept (kept_alloc (kept_alloc (Below.refl _ _) _) _)
  have qc0 : ((W.alloc (.cells #[.int .i64 l, .int .i64 t] 48)).alloc (.cells #[.int .i64 u] 2)).cell? ⟨W.heap.size, 0, none⟩ = some (.int .i64 l) := cell_kept (kept_alloc (Below.refl _ _) _) (by rw [World.cell?, show (W.alloc (.cells #[.int .i64 l, .int .i64 t] 48)).heap[W.heap.size]? = some (.cells #[.int .i64 l, .int .i64 t] 48 (0, 0)) from heap_alloc_new W _]; rfl)
  have qc1 : ((W.alloc (.cells #[.int .i64 l, .int .i64 t] 48)).alloc (.cells #[.int .i64 u] 2)).cell? ⟨W.heap.size, 1, none⟩ = some (.int .i64 t) := cell_kept (kept_alloc (Below.refl _ _) _) (by rw [World.cell?, show (W.alloc (.cells #[.int .i64 l, .int .i64 t] 48)).heap[W.heap.size]? = some (.cells #[.int .i64 l, .int .i64 t] 48 (0, 0)) from heap_alloc_new W _]; rfl)
  have qc2 : ((W.alloc (.cells #[.int .i64 l, .int .i64 t] 48)).alloc (.cells #[.int .i64 u] 2)).cell? ⟨W.heap.size + 1, 0, none⟩ = some (.int .i64 u) := by
    have h := heap_alloc_new (W.alloc (.cells #[.int .i64 l, .int .i64 t] 48)) (.cells #[.int .i64 u] 2)
    rw [show (W.alloc (.cells #[.int .i64 l, .int .i64 t] 48)).heap.size = W.heap.size + 1 by simp] at h
    rw [World.cell?, show ((W.alloc (.cells #[.int .i64 l, .int .i64 t] 48)).alloc (.cells #[.int .i64 u] 2)).heap[W.heap.size + 1]? = some (.cells #[.int .i64 u] 2 (0, 0)) from h]; rfl
  have HCC := Lib.hid (HC.out _ _ _ q0 qc0 qc1 qc2)
  obtain ⟨hn, ao, cap, rfl, hr⟩ := hs
  clear hr q0 qc0 qc1 qc2 HC
  generalize hasT n lv tk l t u = hh at *
  go_enter Try.func54, Try.ntmps54
  go_wp2_with (go_at_call 69; refine HCC.out.mono ?_; rintro e w1 ⟨rfl, hb1⟩)
  go_ret
  exact ⟨ret_bool (by simp), (by repeat (first | assumption | exact Below.refl _ _ | refine kept_drew ?_ | refine kept_drewN ?_ _ | refine kept_alloc ?_ _ | refine kept_set ?_ ?_ _ | (simp; done) | (simp; omega) | refine kept_trans ?_ (by assumption)))⟩

set_option maxHeartbeats 1000000 in
theorem s_l19Free (v : Value) (n : Nat) (lv tk : Nat → Int) (l t u : Int) (bx : Nat) (W : World) (hs : Sl W v 2 n (rc lv tk)) (HB : Hid (Bds n lv tk)) (hx : 0 ≤ l ∧ l ≤ 1440 ∧ 1 ≤ t ∧ t ≤ 1440 ∧ 0 ≤ u ∧ u ≤ 1440)
    (c0 : W.cell? ⟨bx, 0, none⟩ = some (.int .i64 l)) (c1 : W.cell? ⟨bx, 1, none⟩ = some (.int .i64 t)) :
    Calls Try.prog 52 #[v, .pointer (some ⟨bx, 0, none⟩), .int .i64 u] W fun e W' => e = .returned (.bool (hasT n lv tk l t u)) ∧ Below W.heap.size W W' := by
  obtain ⟨h5, h6, h7, h8, h9, h10⟩ := hx
  have HX : Hid (∀ j, j < n → busyP lv tk l t u j = true → hasT n lv tk l t u = false) := fun j hj h => by unfold hasT; exact allTo_no hj (by rw [h]; rfl)
  have HE : Hid ((∀ i, i < n → busyP lv tk l t u i = false) → hasT n lv tk l t u = true) := fun h => by unfold hasT; exact allTo_yes (fun i hi => by rw [h i hi]; rfl)
  have HP : Hid (∀ j, busyP lv tk l t u j = (decide (lv j < l + t + u) && decide (l < lv j + tk j + u))) := fun _ => rfl
  generalize hasT n lv tk l t u = hh at *
  generalize busyP lv tk l t u = bp at *
  obtain ⟨hn, ao, cap, rfl, hr⟩ := hs
  rcases hr with h0 | ⟨g, off, rfl, hr⟩
  · have HE := Lib.hid (HE.out (fun i hi => by omega))
    have h0' : n ≤ 0 := by omega
    clear h0
    go_enter Try.func52, Try.ntmps52
    go_wp2
    refine wp_loop_rounds 1 ?_
    rw [rounds_succ]
    go_wp2
    go_ret
    exact ⟨by rw [HE.out]; rfl, (by repeat (first | assumption | exact Below.refl _ _ | refine kept_drew ?_ | refine kept_drewN ?_ _ | refine kept_alloc ?_ _ | refine kept_set ?_ ?_ _ | (simp; done) | (simp; omega) | refine kept_trans ?_ (by assumption)))⟩
  · have C0 := Lib.hid c0
    have C1 := Lib.hid c1
    clear c0 c1
    go_enter Try.func52, Try.ntmps52
    go_wp2
    go_loopw [7] (fun i wr => ∃ k : Nat, k ≤ n ∧ i = .int .i64 k ∧ Below W.heap.size W wr ∧ Hid (∀ i, i < k → bp i = false)) (fun i _ => n - (intOf i).toNat)
    case atStart => exact ⟨0, Nat.zero_le _, rfl, Below.refl _ _, fun i hi => by omega⟩
    case round =>
      obtain ⟨k, hk, rfl, hb, hno⟩ := hrel
      by_cases hlt : k < n
      · obtain ⟨hs0, hs1⟩ := rcells (hr.kept hb) hlt
        have x0 := cell_kept hb C0.out
        have x1 := cell_kept hb C1.out
        have hbd := HB.out k hlt
        obtain ⟨b1, b2, b3, b4⟩ := hbd
        have hp := HP.out k
        have HX := Lib.hid (HX.out k hlt)
        clear hr
        have e1 : IntKind.i64.wrap (l + t) = l + t := IntWalk.i64_in _ (by omega)
        have e2 : IntKind.i64.wrap (l + t + u) = l + t + u := IntWalk.i64_in _ (by omega)
        have e3 : IntKind.i64.wrap (lv k + tk k) = lv k + tk k := IntWalk.i64_in _ (by omega)
        have e4 : IntKind.i64.wrap (lv k + tk k + u) = lv k + tk k + u := IntWalk.i64_in _ (by omega)
        rcases (show lv k < l + t + u ∨ l + t + u ≤ lv k by omega) with hc | hc
        · have hd : decide (lv k < l + t + u) = true := by simp; omega
          rcases (show l < lv k + tk k + u ∨ lv k + tk k + u ≤ l by omega) with hc2 | hc2
          · have hd2 : decide (l < lv k + tk k + u) = true := by simp; omega
            rw [hd, hd2] at hp
            have HX := Lib.hid (HX.out hp)
            clear hp
            go_wp2_with fail
            go_quiet (fail)
            go_wp2_with fail
            go_ret
            exact ⟨by rw [HX.out]; rfl, (by repeat (first | assumption | exact Below.refl _ _ | refine kept_drew ?_ | refine kept_drewN ?_ _ | refine kept_alloc ?_ _ | refine kept_set ?_ ?_ _ | (simp; done) | (simp; omega) | refine kept_trans ?_ (by assumption)))⟩
          · have hd2 : decide (l < lv k + tk k + u) = false := by simp; omega
            rw [hd, hd2] at hp
            have HN : Hid (∀ i, i < k + 1 → bp i = false) := fun i hi => by
              by_cases e : i = k
              · rw [e]; exact hp
              · exact hno.out i (by omega)
            clear hp
            go_wp2_with fail
            go_quiet (fail)
            clear e1 e2 e3 e4
            go_wp2_with fail
            go_roundw
            case rel => exact ⟨k + 1, by omega, by go_num, (by repeat (first | assumption | exact Below.refl _ _ | refine kept_drew ?_ | refine kept_drewN ?_ _ | refine kept_alloc ?_ _ | refine kept_set ?_ ?_ _ | (simp; done) | (simp; omega) | refine kept_trans ?_ (by assumption))), HN⟩
            case measure => simp [intOf]; omega
        · have hd : decide (lv k < l + t + u) = false := by simp; omega
          rw [hd] at hp
          have HN : Hid (∀ i, i < k + 1 → bp i = false) := fun i hi => by
            by_cases e : i = k
            · rw [e]; exact hp
            · exact hno.out i (by omega)
          clear hp
          go_wp2_with fail
          go_quiet (fail)
          clear e1 e2 e3 e4
          go_wp2_with fail
          go_roundw
          case rel => exact ⟨k + 1, by omega, by go_num, (by repeat (first | assumption | exact Below.refl _ _ | refine kept_drew ?_ | refine kept_drewN ?_ _ | refine kept_alloc ?_ _ | refine kept_set ?_ ?_ _ | (simp; done) | (simp; omega) | refine kept_trans ?_ (by assumption))), HN⟩
          case measure => simp [intOf]; omega
      · have HE := Lib.hid (HE.out (fun i hi => hno.out i (by omega)))
        go_wp2
        go_ret
        exact ⟨by rw [HE.out]; rfl, hb⟩

attribute [irreducible] hasT

end Go.Proofs.Ytcbceodlakbpdaa
