/- The library's searches over []Ride, and the next ride. -/
import Derived.Test.YteieiceknnnphaaDoorWaits
import Derived.Test.YteieiceknnnphaaDoorFuncs
namespace Go.Proofs.YteieiceknnnphaaDoor
open Go.RowKit Go.Deep
set_option maxRecDepth 100000

/-- A ride as a value. -/
def rv (lv tk : Nat → Int) : Nat → Value := fun i => .agg #[.int .i64 (lv i), .int .i64 (tk i)]

theorem indexFunc_rides (g : FuncId) (caps : Array Value) (p : Nat → Bool) (v : Value) (n : Nat) (lv tk : Nat → Int) (W : World) (hs : Sl W v 2 n (rc lv tk)) (hp : Answers W g caps n (rv lv tk) p) :
    Calls Tryd.prog 28 #[v, .func (.func g) #[] caps] W fun e W' => e = .returned (.int .i64 (idxTo p n)) ∧ Below W.heap.size W W' := by
  obtain ⟨hn, ao, cap, rfl, hr⟩ := hs
  obtain ⟨eg, hp⟩ := hp
  have HP := Lib.hid hp
  clear hp
  rcases hr with h0 | ⟨b, off, rfl, hr⟩
  · have h0' : n ≤ 0 := by omega
    clear h0
    go_enter Tryd.func28, Tryd.ntmps28
    go_wp2
    refine wp_loop_rounds 1 ?_
    rw [rounds_succ]
    go_wp2
    go_ret
    exact ⟨ret_int (idxTo_none (fun i hi => by omega)).symm, (by repeat (first | assumption | exact Below.refl _ _ | refine kept_drew ?_ | refine kept_drewN ?_ _ | refine kept_alloc ?_ _ | refine kept_set ?_ ?_ _ | (simp; done) | (simp; omega) | refine kept_trans ?_ (by assumption)))⟩
  · go_enter Tryd.func28, Tryd.ntmps28
    go_wp2
    go_loopw [8] (fun i wr => ∃ k : Nat, k ≤ n ∧ i = .int .i64 k ∧ Below W.heap.size W wr ∧ Hid (∀ i, i < k → p i = false)) (fun i _ => n - (intOf i).toNat)
    case atStart => exact ⟨0, Nat.zero_le _, rfl, (by repeat (first | assumption | exact Below.refl _ _ | refine kept_drew ?_ | refine kept_drewN ?_ _ | refine kept_alloc ?_ _ | refine kept_set ?_ ?_ _ | (simp; done) | (simp; omega) | refine kept_trans ?_ (by assumption))), fun i hi => by omega⟩
    case round =>
      obtain ⟨k, hk, rfl, hb, hno⟩ := hrel
      by_cases hlt : k < n
      · obtain ⟨hs0, hs1⟩ := rcells (hr.kept hb) hlt
        clear hr
        have hcall := Lib.hid (HP.out k hlt wr hb)
        cases hpk : p k
        · have HN : Hid (∀ i, i < k + 1 → p i = false) := fun i hi => by
            by_cases e : i = k
            · rw [e]; exact hpk
            · exact hno.out i (by omega)
          go_wp2_with fail
          refine hcall.out.mono ?_
          rintro e w1 ⟨rfl, hb1⟩
          clear hcall hs0 hs1
          go_wp2_with fail
          go_roundw
          case rel => exact ⟨k + 1, by omega, by go_num, (by repeat (first | assumption | exact Below.refl _ _ | refine kept_drew ?_ | refine kept_drewN ?_ _ | refine kept_alloc ?_ _ | refine kept_set ?_ ?_ _ | (simp; done) | (simp; omega) | refine kept_trans ?_ (by assumption))), HN⟩
          case measure => simp [intOf]; omega
        · have HY := Lib.hid (idxTo_at (p := p) hlt hno.out hpk)
          go_wp2_with fail
          refine hcall.out.mono ?_
          rintro e w1 ⟨rfl, hb1⟩
          clear hcall hs0 hs1
          go_wp2_with fail
          go_ret
          exact ⟨by rw [HY.out]; rfl, (by repeat (first | assumption | exact Below.refl _ _ | refine kept_drew ?_ | refine kept_drewN ?_ _ | refine kept_alloc ?_ _ | refine kept_set ?_ ?_ _ | (simp; done) | (simp; omega) | refine kept_trans ?_ (by assumption)))⟩
      · go_wp2
        go_ret
        exact ⟨ret_int (idxTo_none (fun i hi => hno.out i (by omega))).symm, hb⟩

def nextP (lv : Nat → Int) (m : Int) : Nat → Bool := fun i => decide (m ≤ lv i)
def next (n : Nat) (lv tk : Nat → Int) (m : Int) : Int × Int := if tAsk n lv tk (inB m 0 1440) = 0 then (if idxTo (nextP lv m) n < 0 then (0, 3) else (idxTo (nextP lv m) n, 0)) else (0, tAsk n lv tk (inB m 0 1440))
theorem next_cases (n : Nat) (lv tk : Nat → Int) (m : Int) :
    (∃ c, tAsk n lv tk (inB m 0 1440) = c ∧ (1 ≤ c ∧ c ≤ 2) ∧ Hid (next n lv tk m = (0, c))) ∨
    (tAsk n lv tk (inB m 0 1440) = 0 ∧ n ≤ 24 ∧ Hid (next n lv tk m = if idxTo (nextP lv m) n < 0 then (0, 3) else (idxTo (nextP lv m) n, 0))) := by
  rcases tAsk_cases n lv tk (inB m 0 1440) with ⟨hv, hf⟩ | ⟨hv, hi, hf⟩ | ⟨hv, hi, hf⟩
  · exact .inl ⟨1, hf.out, by omega, by show next _ _ _ _ = _; unfold next; rw [hf.out]; rfl⟩
  · exact .inl ⟨2, hf.out, by omega, by show next _ _ _ _ = _; unfold next; rw [hf.out]; rfl⟩
  · exact .inr ⟨hf.out, (vTable_out hv).1, by show next _ _ _ _ = _; unfold next; rw [hf.out]; rfl⟩
attribute [irreducible] next

theorem cell_kept {w w1 : World} {b o : Nat} {v : Value} (hb : Below w.heap.size w w1) (hc : w.cell? ⟨b, o, none⟩ = some v) : w1.cell? ⟨b, o, none⟩ = some v := by
  rw [hb.cell (p := ⟨b, o, none⟩) (World.block_lt_of_cell? w _ hc)]; exact hc

theorem i_NextRide1 (l t m : Int) (b : Nat) (W : World) (hc : W.cell? ⟨b, 0, none⟩ = some (.int .i64 m)) : Calls Tryd.prog 29 #[.agg #[.int .i64 l, .int .i64 t], .pointer (some ⟨b, 0, none⟩)] W fun e W' => e = .returned (.bool (decide (m ≤ l))) ∧ Below W.heap.size W W' := by
  have hc2 := cell_kept (kept_alloc (Below.refl W.heap.size W) (.cells #[.int .i64 l, .int .i64 t] 32)) hc
  go_enter Tryd.func29, Tryd.ntmps29
  go_wp2
  go_ret
  exact ⟨by simp, (by repeat (first | assumption | exact Below.refl _ _ | refine kept_drew ?_ | refine kept_drewN ?_ _ | refine kept_alloc ?_ _ | refine kept_set ?_ ?_ _ | (simp; done) | (simp; omega) | refine kept_trans ?_ (by assumption)))⟩

theorem i_NextRide (v : Value) (n : Nat) (lv tk : Nat → Int) (m : Int) (W : World) (hs : Sl W v 2 n (rc lv tk)) : Calls Tryd.prog 12 #[v, .int .i64 m] W fun e W' => e = .returned (.tuple #[.int .i64 (next n lv tk m).1, .int .i64 (next n lv tk m).2]) ∧ Below W.heap.size W W' := by
  have HA := Lib.hid (fun w => i_timetabled v n lv tk (inB m 0 1440) w)
  have HI : Hid (∀ w b, Sl w v 2 n (rc lv tk) → w.cell? ⟨b, 0, none⟩ = some (.int .i64 m) → Calls Tryd.prog 28 #[v, .func (.func 29) #[] #[.pointer (some ⟨b, 0, none⟩)]] w fun e W' => e = .returned (.int .i64 (idxTo (nextP lv m) n)) ∧ Below w.heap.size w W') := fun w b h hc =>
    indexFunc_rides 29 #[.pointer (some ⟨b, 0, none⟩)] (nextP lv m) v n lv tk w h ⟨enters Tryd.func29 (by kernel_rfl) rfl, fun i _ w hb => i_NextRide1 (lv i) (tk i) m b w (cell_kept hb hc)⟩
  have HS := hs
  have q0 : Sl (W.alloc (.cells #[.int .i64 m] 2)) v 2 n (rc lv tk) := HS.kept (kept_alloc (Below.refl _ _) _)
  have qc : (W.alloc (.cells #[.int .i64 m] 2)).cell? ⟨W.heap.size, 0, none⟩ = some (.int .i64 m) := by rw [World.cell?, show (W.alloc (.cells #[.int .i64 m] 2)).heap[W.heap.size]? = some (.cells #[.int .i64 m] 2 (0, 0)) from heap_alloc_new W _]; rfl
  obtain ⟨hn, ao, cap, rfl, hr⟩ := hs
  clear hr
  rcases next_cases n lv tk m with ⟨c, hc, hc1, HT⟩ | ⟨hc, h24, HT⟩
  · rw [hc] at HA
    rcases (show c = 1 ∨ c = 2 by omega) with rfl | rfl
    all_goals
      go_enter Tryd.func12, Tryd.ntmps12
      go_wp2_with (first | (go_at_call 20; refine (i_isDayMinute _ _).mono ?_; rintro e w' ⟨rfl, rfl⟩) | (go_at_call 19; refine (HA.out _ q0).mono ?_; rintro e w2 ⟨rfl, hk⟩))
      go_ret2
      exact ⟨by rw [HT.out]; rfl, (by repeat (first | assumption | exact Below.refl _ _ | refine kept_drew ?_ | refine kept_drewN ?_ _ | refine kept_alloc ?_ _ | refine kept_set ?_ ?_ _ | (simp; done) | (simp; omega) | refine kept_trans ?_ (by assumption)))⟩
  · rw [hc] at HA
    have hlo : -1 ≤ idxTo (nextP lv m) n ∧ idxTo (nextP lv m) n ≤ 24 := by rcases idxTo_bounds (nextP lv m) n with h | h <;> omega
    have HF : Hid ((idxTo (nextP lv m) n < 0 → next n lv tk m = (0, 3)) ∧ (0 ≤ idxTo (nextP lv m) n → next n lv tk m = (idxTo (nextP lv m) n, 0))) := ⟨fun h => by rw [HT.out, if_pos h], fun h => by rw [HT.out, if_neg (by omega)]⟩
    generalize hx : idxTo (nextP lv m) n = x at *
    rcases (show x < 0 ∨ 0 ≤ x by omega) with hx0 | hx0
    · have HF := Lib.hid (HF.out.1 hx0)
      go_enter Tryd.func12, Tryd.ntmps12
      go_wp2_with (first | (go_at_call 20; refine (i_isDayMinute _ _).mono ?_; rintro e w' ⟨rfl, rfl⟩) | (go_at_call 19; refine (HA.out _ q0).mono ?_; rintro e w2 ⟨rfl, hk⟩) | (go_at_call 28; refine (HI.out _ W.heap.size (q0.kept hk) (cell_kept hk qc)).mono ?_; rintro e w3 ⟨rfl, hb3⟩))
      go_ret2
      exact ⟨by rw [HF.out]; rfl, (by repeat (first | assumption | exact Below.refl _ _ | refine kept_drew ?_ | refine kept_drewN ?_ _ | refine kept_alloc ?_ _ | refine kept_set ?_ ?_ _ | (simp; done) | (simp; omega) | refine kept_trans ?_ (by assumption)))⟩
    · have HF := Lib.hid (HF.out.2 hx0)
      go_enter Tryd.func12, Tryd.ntmps12
      go_wp2_with (first | (go_at_call 20; refine (i_isDayMinute _ _).mono ?_; rintro e w' ⟨rfl, rfl⟩) | (go_at_call 19; refine (HA.out _ q0).mono ?_; rintro e w2 ⟨rfl, hk⟩) | (go_at_call 28; refine (HI.out _ W.heap.size (q0.kept hk) (cell_kept hk qc)).mono ?_; rintro e w3 ⟨rfl, hb3⟩))
      go_ret2
      exact ⟨by rw [HF.out]; rfl, (by repeat (first | assumption | exact Below.refl _ _ | refine kept_drew ?_ | refine kept_drewN ?_ _ | refine kept_alloc ?_ _ | refine kept_set ?_ ?_ _ | (simp; done) | (simp; omega) | refine kept_trans ?_ (by assumption)))⟩

theorem two {fn : FuncId} {args : Array Value} {W : World} {p : Int × Int} {p0 p1 : Int} (h : Calls Tryd.prog fn args W fun e W' => e = .returned (.tuple #[.int .i64 p.1, .int .i64 p.2]) ∧ Below W.heap.size W W') (hp : p = (p0, p1)) :
    Calls Tryd.prog fn args W fun e W' => e = .returned (.tuple #[.int .i64 p0, .int .i64 p1]) ∧ Below W.heap.size W W' := by subst hp; exact h

end Go.Proofs.YteieiceknnnphaaDoor
