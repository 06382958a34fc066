/- The walks of the laws themselves, over any answers of the two functions that they compare. -/
import Derived.Test.YtfnollbeeehpnaaGroups
import Derived.Test.YtfnollbeeehpnaaFares
import Derived.Test.YtfnollbeeehpnaaInts
import Derived.Deep.DeepMust
import Derived.Deep.RegionHeld3
import Derived.IntWalk
namespace Go.Proofs.Ytfnollbeeehpnaa
open Go.RowKit Go.Deep
set_option maxRecDepth 100000

theorem l_ValidGroups_of {W : World} (v0 : Value) (n0 : Nat) (f0a : Nat → ByteArray) (f0b : Nat → Int) (f0c : Nat → Int) (f0d : Nat → Int) (hs0 : Sl W v0 4 n0 (gc f0a f0b f0c f0d)) (hx0 : Hid (∀ i, i < n0 → ((f0a i).size : Int) ≤ 9223372036854775807))
    (r0 : Bool)
    (HQ : Hid (∀ w u0, Sl w u0 4 n0 (gc f0a f0b f0c f0d) → Hid (∀ i, i < n0 → ((f0a i).size : Int) ≤ 1048576) → Calls Try.prog 16 #[u0] w (fun en w' => en = .returned (.bool r0) ∧ Below w.heap.size w w')))
    (HI : Hid (∀ w u0, Sl w u0 4 n0 (gc f0a f0b f0c f0d) → Hid (∀ i, i < n0 → ((f0a i).size : Int) ≤ 1048576) → Calls Try.prog 18 #[u0] w (fun en w' => en = .returned (.bool r0) ∧ Below w.heap.size w w'))) :
    Calls Try.prog 3 #[v0] W (Truly W) := by
  have HS0 := hs0
  have hn0 := hs0.1
  obtain ⟨-, ao0, cap0, rfl, hr⟩ := hs0
  clear hr
  have hn0' : (n0 : Int) ≤ 17592186044416 := by omega
  go_enter Try.func3, Try.ntmps3
  go_wp2_with fail
  refine (sz_GroupS _ n0 f0a f0b f0c f0d _ _ HS0 (by omega) hx0).mono ?_
  rintro e z0 ⟨rz0, rfl, hzz0, hqz0, hwz0⟩
  have Kz0 : Below W.heap.size W z0 := hwz0
  obtain ⟨hzz0a, hzz0b⟩ := hzz0
  by_cases hlz0 : rz0 < 0
  · go_wp2_with fail
    go_ret
    exact ⟨rfl, Kz0⟩
  have hlz0' : 0 ≤ rz0 := by omega
  have ln0 : (n0 : Int) ≤ 1048576 := by have := (hqz0.out hlz0').1; omega
  have lb0 : Hid (∀ i, i < n0 → ((f0a i).size : Int) ≤ 1048576) := (hqz0.out hlz0').2
  go_wp2_with fail
  refine (toGroupS_sl _ n0 f0a f0b f0c f0d _ (HS0.kept (Kz0)) ln0).mono ?_
  rintro e x1 ⟨rfl, hbx1, hux1, -⟩
  have szx1 := hbx1.size
  go_wp2_with fail
  refine (HQ.out _ _ (hux1) lb0).mono ?_
  rintro e x2 ⟨rfl, hbx2⟩
  have szx2 := hbx2.size
  go_wp2_with fail
  refine (toGroupS_any _ n0 f0a f0b f0c f0d _ (HS0.kept (kept_trans (kept_trans (Kz0) hbx1) hbx2)) ln0).mono ?_
  rintro e x3 ⟨rfl, hbx3, hr0⟩
  have szx3 := hbx3.size
  have xs0 : Sl x3 (.slice (some ⟨x2.heap.size, 0, none⟩) n0 n0) 4 n0 (gc f0a f0b f0c f0d) := Sl.of_row hn0 (Row.of_rowIs hr0)
  have xl0 := hr0.lt
  clear hr0
  go_wp2_with fail
  refine (HI.out _ _ (xs0) lb0).mono ?_
  rintro e x4 ⟨rfl, hbx4⟩
  have szx4 := hbx4.size
  go_wp2_with fail
  refine (toGroupS_sl _ n0 f0a f0b f0c f0d _ (HS0.kept (kept_trans (kept_trans (kept_trans (kept_trans (Kz0) hbx1) hbx2) hbx3) hbx4)) ln0).mono ?_
  rintro e x5 ⟨rfl, hbx5, hux5, -⟩
  have szx5 := hbx5.size
  go_wp2_with fail
  refine (eqGroupS_any _ _ n0 f0a f0b f0c f0d _ (((xs0).kept hbx4).kept hbx5) hux5).mono ?_
  rintro e x6 ⟨rfl, hbx6⟩
  have szx6 := hbx6.size
  go_wp2_with fail
  go_ret
  exact ⟨rfl, kept_trans (kept_trans (kept_trans (kept_trans (kept_trans (kept_trans (Kz0) hbx1) hbx2) hbx3) hbx4) hbx5) hbx6⟩

theorem l_ValidFares_of {W : World} (v0 : Value) (n0 : Nat) (f0a : Nat → ByteArray) (f0b : Nat → Int) (f0c : Nat → Int) (f0d : Nat → Int) (hs0 : Sl W v0 4 n0 (gc f0a f0b f0c f0d)) (hx0 : Hid (∀ i, i < n0 → ((f0a i).size : Int) ≤ 9223372036854775807))
    (r0 : Bool)
    (HQ : Hid (∀ w u0, Sl w u0 4 n0 (gc f0a f0b f0c f0d) → Hid (∀ i, i < n0 → ((f0a i).size : Int) ≤ 1048576) → Calls Try.prog 39 #[u0] w (fun en w' => en = .returned (.bool r0) ∧ Below w.heap.size w w')))
    (HI : Hid (∀ w u0, Sl w u0 4 n0 (gc f0a f0b f0c f0d) → Hid (∀ i, i < n0 → ((f0a i).size : Int) ≤ 1048576) → Calls Try.prog 41 #[u0] w (fun en w' => en = .returned (.bool r0) ∧ Below w.heap.size w w'))) :
    Calls Try.prog 8 #[v0] W (Truly W) := by
  have HS0 := hs0
  have hn0 := hs0.1
  obtain ⟨-, ao0, cap0, rfl, hr⟩ := hs0
  clear hr
  have hn0' : (n0 : Int) ≤ 17592186044416 := by omega
  go_enter Try.func8, Try.ntmps8
  go_wp2_with fail
  refine (sz_FareS _ n0 f0a f0b f0c f0d _ _ HS0 (by omega) hx0).mono ?_
  rintro e z0 ⟨rz0, rfl, hzz0, hqz0, hwz0⟩
  have Kz0 : Below W.heap.size W z0 := hwz0
  obtain ⟨hzz0a, hzz0b⟩ := hzz0
  by_cases hlz0 : rz0 < 0
  · go_wp2_with fail
    go_ret
    exact ⟨rfl, Kz0⟩
  have hlz0' : 0 ≤ rz0 := by omega
  have ln0 : (n0 : Int) ≤ 1048576 := by have := (hqz0.out hlz0').1; omega
  have lb0 : Hid (∀ i, i < n0 → ((f0a i).size : Int) ≤ 1048576) := (hqz0.out hlz0').2
  go_wp2_with fail
  refine (toFareS_sl _ n0 f0a f0b f0c f0d _ (HS0.kept (Kz0)) ln0).mono ?_
  rintro e x1 ⟨rfl, hbx1, hux1, -⟩
  have szx1 := hbx1.size
  go_wp2_with fail
  refine (HQ.out _ _ (hux1) lb0).mono ?_
  rintro e x2 ⟨rfl, hbx2⟩
  have szx2 := hbx2.size
  go_wp2_with fail
  refine (toFareS_any _ n0 f0a f0b f0c f0d _ (HS0.kept (kept_trans (kept_trans (Kz0) hbx1) hbx2)) ln0).mono ?_
  rintro e x3 ⟨rfl, hbx3, hr0⟩
  have szx3 := hbx3.size
  have xs0 : Sl x3 (.slice (some ⟨x2.heap.size, 0, none⟩) n0 n0) 4 n0 (gc f0a f0b f0c f0d) := Sl.of_row hn0 (Row.of_rowIs hr0)
  have xl0 := hr0.lt
  clear hr0
  go_wp2_with fail
  refine (HI.out _ _ (xs0) lb0).mono ?_
  rintro e x4 ⟨rfl, hbx4⟩
  have szx4 := hbx4.size
  go_wp2_with fail
  refine (toFareS_sl _ n0 f0a f0b f0c f0d _ (HS0.kept (kept_trans (kept_trans (kept_trans (kept_trans (Kz0) hbx1) hbx2) hbx3) hbx4)) ln0).mono ?_
  rintro e x5 ⟨rfl, hbx5, hux5, -⟩
  have szx5 := hbx5.size
  go_wp2_with fail
  refine (eqFareS_any _ _ n0 f0a f0b f0c f0d _ (((xs0).kept hbx4).kept hbx5) hux5).mono ?_
  rintro e x6 ⟨rfl, hbx6⟩
  have szx6 := hbx6.size
  go_wp2_with fail
  go_ret
  exact ⟨rfl, kept_trans (kept_trans (kept_trans (kept_trans (kept_trans (kept_trans (Kz0) hbx1) hbx2) hbx3) hbx4) hbx5) hbx6⟩

theorem l_CostOfEach_of {W : World} (v0 : Value) (n0 : Nat) (f0a : Nat → ByteArray) (f0b : Nat → Int) (f0c : Nat → Int) (f0d : Nat → Int) (s1 : ByteArray) (hs0 : Sl W v0 4 n0 (gc f0a f0b f0c f0d)) (hx0 : Hid (∀ i, i < n0 → ((f0a i).size : Int) ≤ 9223372036854775807)) (hs1 : s1.size ≤ 140737488351232)
    (r0 : Int) (r1 : Int)
    (HQ : Hid (∀ w u0, Sl w u0 4 n0 (gc f0a f0b f0c f0d) → Hid (∀ i, i < n0 → ((f0a i).size : Int) ≤ 1048576) → ((s1.size : Nat) : Int) ≤ 1048576 → Calls Try.prog 43 #[u0, .string s1] w (fun en w' => en = .returned (.tuple #[.int .i64 r0, .int .i64 r1]) ∧ Below w.heap.size w w')))
    (HI : Hid (∀ w u0, Sl w u0 4 n0 (gc f0a f0b f0c f0d) → Hid (∀ i, i < n0 → ((f0a i).size : Int) ≤ 1048576) → ((s1.size : Nat) : Int) ≤ 1048576 → Calls Try.prog 44 #[u0, .string s1] w (fun en w' => en = .returned (.tuple #[.int .i64 r0, .int .i64 r1]) ∧ Below w.heap.size w w'))) :
    Calls Try.prog 9 #[v0, .string s1] W (Truly W) := by
  have HS0 := hs0
  have hn0 := hs0.1
  obtain ⟨-, ao0, cap0, rfl, hr⟩ := hs0
  clear hr
  have hn0' : (n0 : Int) ≤ 17592186044416 := by omega
  by_cases hl1 : (1048576 : Int) < (s1.size : Nat)
  · go_enter Try.func9, Try.ntmps9
    go_wp2_with fail
    go_ret
    exact ⟨rfl, (by repeat (first | assumption | exact Below.refl _ _ | refine kept_drew ?_ | refine kept_drewN ?_ _ | refine kept_alloc ?_ _ | refine kept_set ?_ ?_ _ | (simp; done) | (simp; omega) | refine kept_trans ?_ (by assumption)))⟩
  have hl1' : ((s1.size : Nat) : Int) ≤ 1048576 := by omega
  go_enter Try.func9, Try.ntmps9
  go_wp2_with fail
  refine (sz_FareS _ n0 f0a f0b f0c f0d _ _ HS0 (by omega) hx0).mono ?_
  rintro e z0 ⟨rz0, rfl, hzz0, hqz0, hwz0⟩
  have Kz0 : Below W.heap.size W z0 := hwz0
  obtain ⟨hzz0a, hzz0b⟩ := hzz0
  by_cases hlz0 : rz0 < 0
  · go_wp2_with fail
    go_ret
    exact ⟨rfl, Kz0⟩
  have hlz0' : 0 ≤ rz0 := by omega
  have ln0 : (n0 : Int) ≤ 1048576 := by have := (hqz0.out hlz0').1; omega
  have lb0 : Hid (∀ i, i < n0 → ((f0a i).size : Int) ≤ 1048576) := (hqz0.out hlz0').2
  go_wp2_with fail
  refine (toFareS_sl _ n0 f0a f0b f0c f0d _ (HS0.kept (Kz0)) ln0).mono ?_
  rintro e x1 ⟨rfl, hbx1, hux1, -⟩
  have szx1 := hbx1.size
  go_wp2_with fail
  refine (HQ.out _ _ (hux1) lb0 hl1').mono ?_
  rintro e x2 ⟨rfl, hbx2⟩
  have szx2 := hbx2.size
  go_wp2_with fail
  refine (toFareS_any _ n0 f0a f0b f0c f0d _ (HS0.kept (kept_trans (kept_trans (Kz0) hbx1) hbx2)) ln0).mono ?_
  rintro e x3 ⟨rfl, hbx3, hr0⟩
  have szx3 := hbx3.size
  have xs0 : Sl x3 (.slice (some ⟨x2.heap.size, 0, none⟩) n0 n0) 4 n0 (gc f0a f0b f0c f0d) := Sl.of_row hn0 (Row.of_rowIs hr0)
  have xl0 := hr0.lt
  clear hr0
  go_wp2_with fail
  refine (HI.out _ _ (xs0) lb0 hl1').mono ?_
  rintro e x4 ⟨rfl, hbx4⟩
  have szx4 := hbx4.size
  go_wp2_with fail
  refine (toFareS_sl _ n0 f0a f0b f0c f0d _ (HS0.kept (kept_trans (kept_trans (kept_trans (kept_trans (Kz0) hbx1) hbx2) hbx3) hbx4)) ln0).mono ?_
  rintro e x5 ⟨rfl, hbx5, hux5, -⟩
  have szx5 := hbx5.size
  go_wp2_with fail
  refine (eqFareS_any _ _ n0 f0a f0b f0c f0d _ (((xs0).kept hbx4).kept hbx5) hux5).mono ?_
  rintro e x6 ⟨rfl, hbx6⟩
  have szx6 := hbx6.size
  go_wp2_with fail
  go_ret
  exact ⟨rfl, kept_trans (kept_trans (kept_trans (kept_trans (kept_trans (kept_trans (Kz0) hbx1) hbx2) hbx3) hbx4) hbx5) hbx6⟩

theorem l_PayGroups_of {W : World} (v0 : Value) (n0 : Nat) (f0a : Nat → ByteArray) (f0b : Nat → Int) (f0c : Nat → Int) (f0d : Nat → Int) (s1 : ByteArray) (a2 : Int) (a3 : Int) (a4 : Int) (hs0 : Sl W v0 4 n0 (gc f0a f0b f0c f0d)) (hx0 : Hid (∀ i, i < n0 → ((f0a i).size : Int) ≤ 9223372036854775807)) (hs1 : s1.size ≤ 140737488351232)
    (r0 : Int) (r1 : Int)
    (HQ : Hid (∀ w u0, Sl w u0 4 n0 (gc f0a f0b f0c f0d) → Hid (∀ i, i < n0 → ((f0a i).size : Int) ≤ 1048576) → ((s1.size : Nat) : Int) ≤ 1048576 → Calls Try.prog 45 #[u0, .string s1, .int .i64 a2, .int .i64 a3, .int .i64 a4] w (fun en w' => en = .returned (.tuple #[.int .i64 r0, .int .i64 r1]) ∧ Below w.heap.size w w')))
    (HI : Hid (∀ w u0, Sl w u0 4 n0 (gc f0a f0b f0c f0d) → Hid (∀ i, i < n0 → ((f0a i).size : Int) ≤ 1048576) → ((s1.size : Nat) : Int) ≤ 1048576 → Calls Try.prog 46 #[u0, .string s1, .int .i64 a2, .int .i64 a3, .int .i64 a4] w (fun en w' => en = .returned (.tuple #[.int .i64 r0, .int .i64 r1]) ∧ Below w.heap.size w w'))) :
    Calls Try.prog 10 #[v0, .string s1, .int .i64 a2, .int .i64 a3, .int .i64 a4] W (Truly W) := by
  have HS0 := hs0
  have hn0 := hs0.1
  obtain ⟨-, ao0, cap0, rfl, hr⟩ := hs0
  clear hr
  have hn0' : (n0 : Int) ≤ 17592186044416 := by omega
  by_cases hl1 : (1048576 : Int) < (s1.size : Nat)
  · go_enter Try.func10, Try.ntmps10
    go_wp2_with fail
    go_ret
    exact ⟨rfl, (by repeat (first | assumption | exact Below.refl _ _ | refine kept_drew ?_ | refine kept_drewN ?_ _ | refine kept_alloc ?_ _ | refine kept_set ?_ ?_ _ | (simp; done) | (simp; omega) | refine kept_trans ?_ (by assumption)))⟩
  have hl1' : ((s1.size : Nat) : Int) ≤ 1048576 := by omega
  go_enter Try.func10, Try.ntmps10
  go_wp2_with fail
  refine (sz_FareS _ n0 f0a f0b f0c f0d _ _ HS0 (by omega) hx0).mono ?_
  rintro e z0 ⟨rz0, rfl, hzz0, hqz0, hwz0⟩
  have Kz0 : Below W.heap.size W z0 := hwz0
  obtain ⟨hzz0a, hzz0b⟩ := hzz0
  by_cases hlz0 : rz0 < 0
  · go_wp2_with fail
    go_ret
    exact ⟨rfl, Kz0⟩
  have hlz0' : 0 ≤ rz0 := by omega
  have ln0 : (n0 : Int) ≤ 1048576 := by have := (hqz0.out hlz0').1; omega
  have lb0 : Hid (∀ i, i < n0 → ((f0a i).size : Int) ≤ 1048576) := (hqz0.out hlz0').2
  go_wp2_with fail
  refine (toFareS_sl _ n0 f0a f0b f0c f0d _ (HS0.kept (Kz0)) ln0).mono ?_
  rintro e x1 ⟨rfl, hbx1, hux1, -⟩
  have szx1 := hbx1.size
  go_wp2_with fail
  refine (HQ.out _ _ (hux1) lb0 hl1').mono ?_
  rintro e x2 ⟨rfl, hbx2⟩
  have szx2 := hbx2.size
  go_wp2_with fail
  refine (toFareS_any _ n0 f0a f0b f0c f0d _ (HS0.kept (kept_trans (kept_trans (Kz0) hbx1) hbx2)) ln0).mono ?_
  rintro e x3 ⟨rfl, hbx3, hr0⟩
  have szx3 := hbx3.size
  have xs0 : Sl x3 (.slice (some ⟨x2.heap.size, 0, none⟩) n0 n0) 4 n0 (gc f0a f0b f0c f0d) := Sl.of_row hn0 (Row.of_rowIs hr0)
  have xl0 := hr0.lt
  clear hr0
  go_wp2_with fail
  refine (HI.out _ _ (xs0) lb0 hl1').mono ?_
  rintro e x4 ⟨rfl, hbx4⟩
  have szx4 := hbx4.size
  go_wp2_with fail
  refine (toFareS_sl _ n0 f0a f0b f0c f0d _ (HS0.kept (kept_trans (kept_trans (kept_trans (kept_trans (Kz0) hbx1) hbx2) hbx3) hbx4)) ln0).mono ?_
  rintro e x5 ⟨rfl, hbx5, hux5, -⟩
  have szx5 := hbx5.size
  go_wp2_with fail
  refine (eqFareS_any _ _ n0 f0a f0b f0c f0d _ (((xs0).kept hbx4).kept hbx5) hux5).mono ?_
  rintro e x6 ⟨rfl, hbx6⟩
  have szx6 := hbx6.size
  go_wp2_with fail
  go_ret
  exact ⟨rfl, kept_trans (kept_trans (kept_trans (kept_trans (kept_trans (kept_trans (Kz0) hbx1) hbx2) hbx3) hbx4) hbx5) hbx6⟩

theorem l_BreakEven_of {W : World} (v0 : Value) (n0 : Nat) (f0a : Nat → ByteArray) (f0b : Nat → Int) (f0c : Nat → Int) (f0d : Nat → Int) (s1 : ByteArray) (s2 : ByteArray) (hs0 : Sl W v0 4 n0 (gc f0a f0b f0c f0d)) (hx0 : Hid (∀ i, i < n0 → ((f0a i).size : Int) ≤ 9223372036854775807)) (hs1 : s1.size ≤ 140737488351232) (hs2 : s2.size ≤ 140737488351232)
    (r0 : Int) (r1 : Int)
    (HQ : Hid (∀ w u0, Sl w u0 4 n0 (gc f0a f0b f0c f0d) → Hid (∀ i, i < n0 → ((f0a i).size : Int) ≤ 1048576) → ((s1.size : Nat) : Int) ≤ 1048576 → ((s2.size : Nat) : Int) ≤ 1048576 → Calls Try.prog 47 #[u0, .string s1, .string s2] w (fun en w' => en = .returned (.tuple #[.int .i64 r0, .int .i64 r1]) ∧ Below w.heap.size w w')))
    (HI : Hid (∀ w u0, Sl w u0 4 n0 (gc f0a f0b f0c f0d) → Hid (∀ i, i < n0 → ((f0a i).size : Int) ≤ 1048576) → ((s1.size : Nat) : Int) ≤ 1048576 → ((s2.size : Nat) : Int) ≤ 1048576 → Calls Try.prog 48 #[u0, .string s1, .string s2] w (fun en w' => en = .returned (.tuple #[.int .i64 r0, .int .i64 r1]) ∧ Below w.heap.size w w'))) :
    Calls Try.prog 11 #[v0, .string s1, .string s2] W (Truly W) := by
  have HS0 := hs0
  have hn0 := hs0.1
  obtain ⟨-, ao0, cap0, rfl, hr⟩ := hs0
  clear hr
  have hn0' : (n0 : Int) ≤ 17592186044416 := by omega
  by_cases hl1 : (1048576 : Int) < (s1.size : Nat)
  · go_enter Try.func11, Try.ntmps11
    go_wp2_with fail
    go_ret
    exact ⟨rfl, (by repeat (first | assumption | exact Below.refl _ _ | refine kept_drew ?_ | refine kept_drewN ?_ _ | refine kept_alloc ?_ _ | refine kept_set ?_ ?_ _ | (simp; done) | (simp; omega) | refine kept_trans ?_ (by assumption)))⟩
  have hl1' : ((s1.size : Nat) : Int) ≤ 1048576 := by omega
  by_cases hl2 : (1048576 : Int) < (s2.size : Nat)
  · go_enter Try.func11, Try.ntmps11
    go_wp2_with fail
    go_ret
    exact ⟨rfl, (by repeat (first | assumption | exact Below.refl _ _ | refine kept_drew ?_ | refine kept_drewN ?_ _ | refine kept_alloc ?_ _ | refine kept_set ?_ ?_ _ | (simp; done) | (simp; omega) | refine kept_trans ?_ (by assumption)))⟩
  have hl2' : ((s2.size : Nat) : Int) ≤ 1048576 := by omega
  go_enter Try.func11, Try.ntmps11
  go_wp2_with fail
  refine (sz_FareS _ n0 f0a f0b f0c f0d _ _ HS0 (by omega) hx0).mono ?_
  rintro e z0 ⟨rz0, rfl, hzz0, hqz0, hwz0⟩
  have Kz0 : Below W.heap.size W z0 := hwz0
  obtain ⟨hzz0a, hzz0b⟩ := hzz0
  by_cases hlz0 : rz0 < 0
  · go_wp2_with fail
    go_ret
    exact ⟨rfl, Kz0⟩
  have hlz0' : 0 ≤ rz0 := by omega
  have ln0 : (n0 : Int) ≤ 1048576 := by have := (hqz0.out hlz0').1; omega
  have lb0 : Hid (∀ i, i < n0 → ((f0a i).size : Int) ≤ 1048576) := (hqz0.out hlz0').2
  go_wp2_with fail
  refine (toFareS_sl _ n0 f0a f0b f0c f0d _ (HS0.kept (Kz0)) ln0).mono ?_
  rintro e x1 ⟨rfl, hbx1, hux1, -⟩
  have szx1 := hbx1.size
  go_wp2_with fail
  refine (HQ.out _ _ (hux1) lb0 hl1' hl2').mono ?_
  rintro e x2 ⟨rfl, hbx2⟩
  have szx2 := hbx2.size
  go_wp2_with fail
  refine (toFareS_any _ n0 f0a f0b f0c f0d _ (HS0.kept (kept_trans (kept_trans (Kz0) hbx1) hbx2)) ln0).mono ?_
  rintro e x3 ⟨rfl, hbx3, hr0⟩
  have szx3 := hbx3.size
  have xs0 : Sl x3 (.slice (some ⟨x2.heap.size, 0, none⟩) n0 n0) 4 n0 (gc f0a f0b f0c f0d) := Sl.of_row hn0 (Row.of_rowIs hr0)
  have xl0 := hr0.lt
  clear hr0
  go_wp2_with fail
  refine (HI.out _ _ (xs0) lb0 hl1' hl2').mono ?_
  rintro e x4 ⟨rfl, hbx4⟩
  have szx4 := hbx4.size
  go_wp2_with fail
  refine (toFareS_sl _ n0 f0a f0b f0c f0d _ (HS0.kept (kept_trans (kept_trans (kept_trans (kept_trans (Kz0) hbx1) hbx2) hbx3) hbx4)) ln0).mono ?_
  rintro e x5 ⟨rfl, hbx5, hux5, -⟩
  have szx5 := hbx5.size
  go_wp2_with fail
  refine (eqFareS_any _ _ n0 f0a f0b f0c f0d _ (((xs0).kept hbx4).kept hbx5) hux5).mono ?_
  rintro e x6 ⟨rfl, hbx6⟩
  have szx6 := hbx6.size
  go_wp2_with fail
  go_ret
  exact ⟨rfl, kept_trans (kept_trans (kept_trans (kept_trans (kept_trans (kept_trans (Kz0) hbx1) hbx2) hbx3) hbx4) hbx5) hbx6⟩

theorem l_GroupCents_of {W : World} (v0 : Value) (n0 : Nat) (f0a : Nat → ByteArray) (f0b : Nat → Int) (f0c : Nat → Int) (f0d : Nat → Int) (s1 : ByteArray) (a2 : Int) (a3 : Int) (a4 : Int) (hs0 : Sl W v0 4 n0 (gc f0a f0b f0c f0d)) (hx0 : Hid (∀ i, i < n0 → ((f0a i).size : Int) ≤ 9223372036854775807)) (hs1 : s1.size ≤ 140737488351232)
    (r0 : Int) (r1 : Int)
    (HQ : Hid (∀ w u0, Sl w u0 4 n0 (gc f0a f0b f0c f0d) → Hid (∀ i, i < n0 → ((f0a i).size : Int) ≤ 1048576) → ((s1.size : Nat) : Int) ≤ 1048576 → Calls Try.prog 49 #[u0, .string s1, .int .i64 a2, .int .i64 a3, .int .i64 a4] w (fun en w' => en = .returned (.tuple #[.int .i64 r0, .int .i64 r1]) ∧ Below w.heap.size w w')))
    (HI : Hid (∀ w u0, Sl w u0 4 n0 (gc f0a f0b f0c f0d) → Hid (∀ i, i < n0 → ((f0a i).size : Int) ≤ 1048576) → ((s1.size : Nat) : Int) ≤ 1048576 → Calls Try.prog 50 #[u0, .string s1, .int .i64 a2, .int .i64 a3, .int .i64 a4] w (fun en w' => en = .returned (.tuple #[.int .i64 r0, .int .i64 r1]) ∧ Below w.heap.size w w'))) :
    Calls Try.prog 12 #[v0, .string s1, .int .i64 a2, .int .i64 a3, .int .i64 a4] W (Truly W) := by
  have HS0 := hs0
  have hn0 := hs0.1
  obtain ⟨-, ao0, cap0, rfl, hr⟩ := hs0
  clear hr
  have hn0' : (n0 : Int) ≤ 17592186044416 := by omega
  by_cases hl1 : (1048576 : Int) < (s1.size : Nat)
  · go_enter Try.func12, Try.ntmps12
    go_wp2_with fail
    go_ret
    exact ⟨rfl, (by repeat (first | assumption | exact Below.refl _ _ | refine kept_drew ?_ | refine kept_drewN ?_ _ | refine kept_alloc ?_ _ | refine kept_set ?_ ?_ _ | (simp; done) | (simp; omega) | refine kept_trans ?_ (by assumption)))⟩
  have hl1' : ((s1.size : Nat) : Int) ≤ 1048576 := by omega
  go_enter Try.func12, Try.ntmps12
  go_wp2_with fail
  refine (sz_FareS _ n0 f0a f0b f0c f0d _ _ HS0 (by omega) hx0).mono ?_
  rintro e z0 ⟨rz0, rfl, hzz0, hqz0, hwz0⟩
  have Kz0 : Below W.heap.size W z0 := hwz0
  obtain ⟨hzz0a, hzz0b⟩ := hzz0
  by_cases hlz0 : rz0 < 0
  · go_wp2_with fail
    go_ret
    exact ⟨rfl, Kz0⟩
  have hlz0' : 0 ≤ rz0 := by omega
  have ln0 : (n0 : Int) ≤ 1048576 := by have := (hqz0.out hlz0').1; omega
  have lb0 : Hid (∀ i, i < n0 → ((f0a i).size : Int) ≤ 1048576) := (hqz0.out hlz0').2
  go_wp2_with fail
  refine (toFareS_sl _ n0 f0a f0b f0c f0d _ (HS0.kept (Kz0)) ln0).mono ?_
  rintro e x1 ⟨rfl, hbx1, hux1, -⟩
  have szx1 := hbx1.size
  go_wp2_with fail
  refine (HQ.out _ _ (hux1) lb0 hl1').mono ?_
  rintro e x2 ⟨rfl, hbx2⟩
  have szx2 := hbx2.size
  go_wp2_with fail
  refine (toFareS_any _ n0 f0a f0b f0c f0d _ (HS0.kept (kept_trans (kept_trans (Kz0) hbx1) hbx2)) ln0).mono ?_
  rintro e x3 ⟨rfl, hbx3, hr0⟩
  have szx3 := hbx3.size
  have xs0 : Sl x3 (.slice (some ⟨x2.heap.size, 0, none⟩) n0 n0) 4 n0 (gc f0a f0b f0c f0d) := Sl.of_row hn0 (Row.of_rowIs hr0)
  have xl0 := hr0.lt
  clear hr0
  go_wp2_with fail
  refine (HI.out _ _ (xs0) lb0 hl1').mono ?_
  rintro e x4 ⟨rfl, hbx4⟩
  have szx4 := hbx4.size
  go_wp2_with fail
  refine (toFareS_sl _ n0 f0a f0b f0c f0d _ (HS0.kept (kept_trans (kept_trans (kept_trans (kept_trans (Kz0) hbx1) hbx2) hbx3) hbx4)) ln0).mono ?_
  rintro e x5 ⟨rfl, hbx5, hux5, -⟩
  have szx5 := hbx5.size
  go_wp2_with fail
  refine (eqFareS_any _ _ n0 f0a f0b f0c f0d _ (((xs0).kept hbx4).kept hbx5) hux5).mono ?_
  rintro e x6 ⟨rfl, hbx6⟩
  have szx6 := hbx6.size
  go_wp2_with fail
  go_ret
  exact ⟨rfl, kept_trans (kept_trans (kept_trans (kept_trans (kept_trans (kept_trans (Kz0) hbx1) hbx2) hbx3) hbx4) hbx5) hbx6⟩

end Go.Proofs.Ytfnollbeeehpnaa
