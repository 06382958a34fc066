/- What is asked of a timetable first; the longest wait. -/
import Derived.Test.YteieiceknnnphaaDoorTable
namespace Go.Proofs.YteieiceknnnphaaDoor
open Go.RowKit Go.Deep
set_option maxRecDepth 100000

/-- The code of a timetable and of what else is asked. -/
def tAsk (n : Nat) (lv tk : Nat → Int) (fine : Bool) : Int := if vTable n lv tk then (if fine then 0 else 2) else 1
theorem tAsk_cases (n : Nat) (lv tk : Nat → Int) (fine : Bool) : (vTable n lv tk = false ∧ Hid (tAsk n lv tk fine = 1)) ∨ (vTable n lv tk = true ∧ fine = false ∧ Hid (tAsk n lv tk fine = 2)) ∨ (vTable n lv tk = true ∧ fine = true ∧ Hid (tAsk n lv tk fine = 0)) := by
  cases h : vTable n lv tk
  · exact .inl ⟨rfl, by show tAsk _ _ _ _ = _; unfold tAsk; rw [h]; rfl⟩
  · cases fine
    · exact .inr (.inl ⟨rfl, rfl, by show tAsk _ _ _ _ = _; unfold tAsk; rw [h]; rfl⟩)
    · exact .inr (.inr ⟨rfl, rfl, by show tAsk _ _ _ _ = _; unfold tAsk; rw [h]; rfl⟩)
/-- What a right timetable says of its rides. -/
theorem vTable_rides {n : Nat} {lv tk : Nat → Int} (h : vTable n lv tk = true) : n ≤ 24 ∧ (∀ i, i < n → 0 ≤ lv i ∧ lv i ≤ 1440 ∧ 1 ≤ tk i ∧ tk i ≤ 1440 ∧ lv i + tk i ≤ 1440) ∧ (∀ i, i + 1 < n → lv i + tk i ≤ lv (i + 1)) := by
  obtain ⟨h1, h2⟩ := vTable_out h
  refine ⟨h1, fun i hi => vRide_out (rideAt_out (h2 i hi)).1, fun i hi => ?_⟩
  have := (rideAt_out (h2 (i + 1) hi)).2 (by omega)
  simpa using this
attribute [irreducible] tAsk

theorem i_timetabled (v : Value) (n : Nat) (lv tk : Nat → Int) (fine : Bool) (W : World) (hs : Sl W v 2 n (rc lv tk)) : Calls Tryd.prog 19 #[v, .bool fine] W fun e W' => e = .returned (.int .i64 (tAsk n lv tk fine)) ∧ Below W.heap.size W W' := by
  have HS := hs
  obtain ⟨hn, ao, cap, rfl, hr⟩ := hs
  clear hr
  rcases tAsk_cases n lv tk fine with ⟨hv, HT⟩ | ⟨hv, rfl, HT⟩ | ⟨hv, rfl, HT⟩
  all_goals
    go_enter Tryd.func19, Tryd.ntmps19
    go_wp2_with fail
    refine (i_ValidTimetable _ n lv tk _ HS).mono ?_
    rintro e w1 ⟨rfl, hb1⟩
    go_wp2
    go_ret
    exact ⟨ret_int HT.out.symm, hb1⟩

def waitTo (lv : Nat → Int) : Nat → Int × Int
  | 0 => (0, -1)
  | k + 1 => if (waitTo lv k).2 < lv (k + 1) - lv k then (((k + 1 : Nat) : Int), lv (k + 1) - lv k) else waitTo lv k
theorem waitTo_yes {lv : Nat → Int} {k : Nat} {b m : Int} (hp : waitTo lv k = (b, m)) (h : m < lv (k + 1) - lv k) : waitTo lv (k + 1) = (((k + 1 : Nat) : Int), lv (k + 1) - lv k) := by
  simp only [waitTo, hp]; rw [if_pos h]
theorem waitTo_no {lv : Nat → Int} {k : Nat} {b m : Int} (hp : waitTo lv k = (b, m)) (h : lv (k + 1) - lv k ≤ m) : waitTo lv (k + 1) = (b, m) := by
  simp only [waitTo, hp]; rw [if_neg (by omega)]
theorem waitTo_zero (lv : Nat → Int) : waitTo lv 0 = (0, -1) := rfl
def longest (n : Nat) (lv tk : Nat → Int) : Int × Int × Int := if vTable n lv tk then (if n < 2 then (0, 0, 3) else ((waitTo lv (n - 1)).1, (waitTo lv (n - 1)).2, 0)) else (0, 0, 1)
theorem longest_cases (n : Nat) (lv tk : Nat → Int) : (vTable n lv tk = false ∧ Hid (longest n lv tk = (0, 0, 1))) ∨ (vTable n lv tk = true ∧ (n : Int) < 2 ∧ Hid (longest n lv tk = (0, 0, 3))) ∨
    (vTable n lv tk = true ∧ (2 : Int) ≤ n ∧ n ≤ 24 ∧ Hid (∀ i, i < n → 0 ≤ lv i ∧ lv i ≤ 1440) ∧ Hid (∀ i, i + 1 < n → lv i < lv (i + 1)) ∧ Hid (longest n lv tk = ((waitTo lv (n - 1)).1, (waitTo lv (n - 1)).2, 0))) := by
  cases h : vTable n lv tk
  · exact .inl ⟨rfl, by show longest _ _ _ = _; unfold longest; rw [h]; rfl⟩
  · obtain ⟨h1, h2, h3⟩ := vTable_rides h
    by_cases hn : n < 2
    · exact .inr (.inl ⟨rfl, by omega, by show longest _ _ _ = _; unfold longest; rw [h]; simp [hn]⟩)
    · exact .inr (.inr ⟨rfl, by omega, h1, fun i hi => ⟨(h2 i hi).1, (h2 i hi).2.1⟩, fun i hi => by have := h3 i hi; have := h2 i (by omega); omega, by show longest _ _ _ = _; unfold longest; rw [h]; simp [hn]⟩)
attribute [irreducible] waitTo longest

def ret3of (p : Int × Int × Int) : Ending := .returned (.tuple #[.int .i64 p.1, .int .i64 p.2.1, .int .i64 p.2.2])

theorem i_LongestWait (v : Value) (n : Nat) (lv tk : Nat → Int) (W : World) (hs : Sl W v 2 n (rc lv tk)) : Calls Tryd.prog 16 #[v] W fun e W' => e = ret3of (longest n lv tk) ∧ Below W.heap.size W W' := by
  have HS := hs
  obtain ⟨hn, ao, cap, rfl, hr⟩ := hs
  rcases longest_cases n lv tk with ⟨hv, HT⟩ | ⟨hv, h2, HT⟩ | ⟨hv, h2, h24, HB, HL, HT⟩
  · clear hr
    go_enter Tryd.func16, Tryd.ntmps16
    go_wp2_with fail
    refine (i_ValidTimetable _ n lv tk _ HS).mono ?_
    rintro e w1 ⟨rfl, hb1⟩
    go_wp2
    refine bodyPost_ret (results_tmp3 rfl _ _ _) rfl ⟨by rw [HT.out]; rfl, hb1⟩
  · clear hr
    go_enter Tryd.func16, Tryd.ntmps16
    go_wp2_with fail
    refine (i_ValidTimetable _ n lv tk _ HS).mono ?_
    rintro e w1 ⟨rfl, hb1⟩
    go_wp2
    refine bodyPost_ret (results_tmp3 rfl _ _ _) rfl ⟨by rw [HT.out]; rfl, hb1⟩
  · rcases hr with h0 | ⟨g, off, rfl, hr⟩
    · omega
    go_enter Tryd.func16, Tryd.ntmps16
    go_wp2_with fail
    refine (i_ValidTimetable _ n lv tk _ HS).mono ?_
    rintro e w1 ⟨rfl, hb1⟩
    go_wp2
    go_loopw [5, 6, 7] (fun b m i wr => ∃ (k : Nat) (bb mm : Int), 1 ≤ k ∧ k ≤ n ∧ i = .int .i64 k ∧ b = .int .i64 bb ∧ m = .int .i64 mm ∧ Below W.heap.size W wr ∧ Hid (waitTo lv (k - 1) = (bb, mm))) (fun _ _ i _ => n - (intOf i).toNat)
    case atStart => exact ⟨1, 0, -1, Nat.le_refl _, by omega, rfl, rfl, rfl, hb1, waitTo_zero _⟩
    case round =>
      obtain ⟨k, bb, mm, hk1, hk, rfl, rfl, rfl, hb, HW⟩ := hrel
      by_cases hlt : k < n
      · obtain ⟨hs0, hs1⟩ := rcells (hr.kept hb) hlt
        obtain ⟨ht0, ht1⟩ := rcells (hr.kept hb) (k := k - 1) (by omega)
        have b0 := HB.out k hlt
        have b1 := HB.out (k - 1) (by omega)
        have HY := Lib.hid (waitTo_yes HW.out)
        have HN := Lib.hid (waitTo_no HW.out)
        rw [show k - 1 + 1 = k by omega] at HY HN
        have hk0 : 0 < k := hk1
        clear hs1 ht1 hr
        by_cases hw : mm < lv k - lv (k - 1)
        · have HY := Lib.hid (HY.out hw)
          go_wp2
          go_quiet (fail)
          go_wp2
          go_roundw
          case rel => exact ⟨k + 1, k, lv k - lv (k - 1), by omega, by omega, by go_num, rfl, rfl, (by repeat (first | assumption | exact Below.refl _ _ | refine kept_drew ?_ | refine kept_drewN ?_ _ | refine kept_alloc ?_ _ | refine kept_set ?_ ?_ _ | (simp; done) | (simp; omega) | refine kept_trans ?_ (by assumption))), by rw [show k + 1 - 1 = k by omega]; exact HY.out⟩
          case measure => simp [intOf]; omega
        · have HN := Lib.hid (HN.out (by omega))
          go_wp2
          go_quiet (fail)
          go_wp2
          go_roundw
          case rel => exact ⟨k + 1, bb, mm, by omega, by omega, by go_num, rfl, rfl, (by repeat (first | assumption | exact Below.refl _ _ | refine kept_drew ?_ | refine kept_drewN ?_ _ | refine kept_alloc ?_ _ | refine kept_set ?_ ?_ _ | (simp; done) | (simp; omega) | refine kept_trans ?_ (by assumption))), by rw [show k + 1 - 1 = k by omega]; exact HN.out⟩
          case measure => simp [intOf]; omega
      · obtain rfl : k = n := by omega
        have HE : Hid (longest k lv tk = (bb, mm, 0)) := by have := HT.out; rw [HW.out] at this; exact this
        go_wp2
        refine bodyPost_ret (results_tmp3 rfl _ _ _) rfl ⟨by rw [HE.out]; rfl, hb⟩

theorem three {fn : FuncId} {args : Array Value} {W : World} {p : Int × Int × Int} {p0 p1 p2 : Int} (h : Calls Tryd.prog fn args W fun e W' => e = ret3of p ∧ Below W.heap.size W W') (hp : p = (p0, p1, p2)) :
    Calls Tryd.prog fn args W fun e W' => e = .returned (.tuple #[.int .i64 p0, .int .i64 p1, .int .i64 p2]) ∧ Below W.heap.size W W' := by subst hp; exact h

end Go.Proofs.YteieiceknnnphaaDoor
