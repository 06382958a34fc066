/- The walks of the laws themselves, over any answers of the two functions that they compare. -/
import Derived.Test.YtfnollbeeehpnaaGroups
import Derived.Test.YtfnollbeeehpnaaFares
import Derived.Test.YtfnollbeeehpnaaInts
import Derived.Deep.DeepMust
import Derived.Deep.RegionHeld3
import Derived.IntWalk
namespace Go.Proofs.Ytfnollbeeehpnaa
open Go.RowKit Go.Deep
set_option maxRecDepth 100000

theorem l_FitsCar_of {W : World} (v0 : Value) (n0 : Nat) (f0a : Nat → ByteArray) (f0b : Nat → Int) (f0c : Nat → Int) (f0d : Nat → Int) (v1 : Value) (n1 : Nat) (f1a : Nat → Int) (c20 : Int) (c21 : Int) (c22 : Int) (hs0 : Sl W v0 4 n0 (gc f0a f0b f0c f0d)) (hx0 : Hid (∀ i, i < n0 → ((f0a i).size : Int) ≤ 9223372036854775807)) (hs1 : Sl W v1 1 n1 (ic f1a))
    (r0 : Bool)
    (HQ : Hid (∀ w u0 u1, Sl w u0 4 n0 (gc f0a f0b f0c f0d) → Sl w u1 1 n1 (ic f1a) → Hid (∀ i, i < n0 → ((f0a i).size : Int) ≤ 1048576) → Calls Try.prog 23 #[u0, u1, .agg #[.int .i64 c20, .int .i64 c21, .int .i64 c22]] w (fun en w' => en = .returned (.bool r0) ∧ Below w.heap.size w w')))
    (HI : Hid (∀ w u0 u1, Sl w u0 4 n0 (gc f0a f0b f0c f0d) → Sl w u1 1 n1 (ic f1a) → Hid (∀ i, i < n0 → ((f0a i).size : Int) ≤ 1048576) → Calls Try.prog 26 #[u0, u1, .agg #[.int .i64 c20, .int .i64 c21, .int .i64 c22]] w (fun en w' => en = .returned (.bool r0) ∧ Below w.heap.size w w'))) :
    Calls Try.prog 5 #[v0, v1, .agg #[.int .i64 c20, .int .i64 c21, .int .i64 c22]] W (Truly W) := by
  have HS0 := hs0
  have hn0 := hs0.1
  obtain ⟨-, ao0, cap0, rfl, hr⟩ := hs0
  clear hr
  have hn0' : (n0 : Int) ≤ 17592186044416 := by omega
  have HS1 := hs1
  have hn1 := hs1.1
  obtain ⟨-, ao1, cap1, rfl, hr⟩ := hs1
  clear hr
  have hn1' : (n1 : Int) ≤ 17592186044416 := by omega
  by_cases hl1 : (1048576 : Int) < (n1 : Nat)
  · go_enter Try.func5, Try.ntmps5
    go_wp2_with fail
    go_ret
    exact ⟨rfl, (by repeat (first | assumption | exact Below.refl _ _ | refine kept_drew ?_ | refine kept_drewN ?_ _ | refine kept_alloc ?_ _ | refine kept_set ?_ ?_ _ | (simp; done) | (simp; omega) | refine kept_trans ?_ (by assumption)))⟩
  have hl1' : ((n1 : Nat) : Int) ≤ 1048576 := by omega
  have HSA0 := HS0.kept (kept_alloc (Below.refl _ _) (.cells #[.int .i64 c20, .int .i64 c21, .int .i64 c22] 35))
  have HSA1 := HS1.kept (kept_alloc (Below.refl _ _) (.cells #[.int .i64 c20, .int .i64 c21, .int .i64 c22] 35))
  have qb2_0 : (W.alloc (.cells #[.int .i64 c20, .int .i64 c21, .int .i64 c22] 35)).cell? ⟨W.heap.size, 0, none⟩ = some (.int .i64 c20) := boxed_at rfl rfl
  have qb2_1 : (W.alloc (.cells #[.int .i64 c20, .int .i64 c21, .int .i64 c22] 35)).cell? ⟨W.heap.size, 1, none⟩ = some (.int .i64 c21) := boxed_at rfl rfl
  have qb2_2 : (W.alloc (.cells #[.int .i64 c20, .int .i64 c21, .int .i64 c22] 35)).cell? ⟨W.heap.size, 2, none⟩ = some (.int .i64 c22) := boxed_at rfl rfl
  have KB0 : Below W.heap.size W (W.alloc (.cells #[.int .i64 c20, .int .i64 c21, .int .i64 c22] 35)) := kept_alloc (Below.refl _ _) (.cells #[.int .i64 c20, .int .i64 c21, .int .i64 c22] 35)
  go_enter Try.func5, Try.ntmps5
  go_wp2_with fail
  refine (sz_GroupS _ n0 f0a f0b f0c f0d _ _ HSA0 (by omega) hx0).mono ?_
  rintro e z0 ⟨rz0, rfl, hzz0, hqz0, hwz0⟩
  have Kz0 : Below (W.alloc (.cells #[.int .i64 c20, .int .i64 c21, .int .i64 c22] 35)).heap.size (W.alloc (.cells #[.int .i64 c20, .int .i64 c21, .int .i64 c22] 35)) z0 := hwz0
  obtain ⟨hzz0a, hzz0b⟩ := hzz0
  by_cases hlz0 : rz0 < 0
  · go_wp2_with fail
    go_ret
    exact ⟨rfl, kept_trans KB0 Kz0⟩
  have hlz0' : 0 ≤ rz0 := by omega
  have ln0 : (n0 : Int) ≤ 1048576 := by have := (hqz0.out hlz0').1; omega
  have lb0 : Hid (∀ i, i < n0 → ((f0a i).size : Int) ≤ 1048576) := (hqz0.out hlz0').2
  have qn1_0 := cell_keep (Kz0) qb2_0
  have qn1_1 := cell_keep (Kz0) qb2_1
  have qn1_2 := cell_keep (Kz0) qb2_2
  go_wp2_with fail
  go_region_held3 (fun w' => w'.cell? ⟨W.heap.size, 0, none⟩ = some (.int .i64 c20) ∧ w'.cell? ⟨W.heap.size, 1, none⟩ = some (.int .i64 c21) ∧ w'.cell? ⟨W.heap.size, 2, none⟩ = some (.int .i64 c22)) (first | go_keep | (go_split_ands; refine ⟨?_, ?_, ?_⟩ <;> (first | exact cell_keep hbx4 (by assumption) | exact cell_keep hbx3 (by assumption) | exact cell_keep hbx2 (by assumption) | exact cell_keep hbx1 (by assumption))) | ((try dsimp only); refine ⟨?_, ?_, ?_⟩ <;> go_keep)) (first | (go_at_call 17; refine (toGroupS_sl _ n0 f0a f0b f0c f0d _ (HSA0.kept (kept_drew (Kz0))) ln0).mono ?_; rintro e x1 ⟨rfl, hbx1, hux1, -⟩) | (go_at_call 24; refine (toInt64S_sl _ n1 f1a _ (HSA1.kept (kept_trans (kept_drew (Kz0)) hbx1))).mono ?_; rintro e x2 ⟨rfl, hbx2, hux2⟩) | (go_at_call 25; refine (l_toRoom c20 c21 c22 _).mono ?_; rintro e x3 ⟨rfl, hbx3⟩) | (go_at_call 23; refine (HQ.out _ _ _ (((hux1).kept hbx2).kept hbx3) ((hux2).kept hbx3) lb0).mono ?_; rintro e x4 ⟨rfl, hbx4⟩))
  have hdx1 : Below z0.heap.size z0 x1 := kept_trans (kept_drew (Below.refl _ _)) hbx1
  have szx1 := hdx1.size
  have szx2 := hbx2.size
  have szx3 := hbx3.size
  have szx4 := hbx4.size
  go_wp2_with fail
  refine (toGroupS_any _ n0 f0a f0b f0c f0d _ (HSA0.kept (kept_trans (kept_trans (kept_trans (kept_trans (Kz0) hdx1) hbx2) hbx3) hbx4)) ln0).mono ?_
  rintro e x5 ⟨rfl, hbx5, hr0⟩
  have szx5 := hbx5.size
  have xs0 : Sl x5 (.slice (some ⟨x4.heap.size, 0, none⟩) n0 n0) 4 n0 (gc f0a f0b f0c f0d) := Sl.of_row hn0 (Row.of_rowIs hr0)
  have xl0 := hr0.lt
  clear hr0
  go_wp2_with fail
  refine (toInt64S_any _ n1 f1a _ (HSA1.kept (kept_trans (kept_trans (kept_trans (kept_trans (kept_trans (Kz0) hdx1) hbx2) hbx3) hbx4) hbx5))).mono ?_
  rintro e x6 ⟨rfl, hbx6, hr1⟩
  have szx6 := hbx6.size
  have xs1 : Sl x6 (.slice (some ⟨x5.heap.size, 0, none⟩) n1 n1) 1 n1 (ic f1a) := Sl.of_row hn1 (by rw [Nat.mul_one]; exact Row.of_rowIs hr1)
  have xl1 := hr1.lt
  clear hr1
  have qo7_0 := cell_keep (kept_trans (kept_trans (kept_trans (kept_trans (kept_trans (kept_trans (Kz0) hdx1) hbx2) hbx3) hbx4) hbx5) hbx6) qb2_0
  have qo7_1 := cell_keep (kept_trans (kept_trans (kept_trans (kept_trans (kept_trans (kept_trans (Kz0) hdx1) hbx2) hbx3) hbx4) hbx5) hbx6) qb2_1
  have qo7_2 := cell_keep (kept_trans (kept_trans (kept_trans (kept_trans (kept_trans (kept_trans (Kz0) hdx1) hbx2) hbx3) hbx4) hbx5) hbx6) qb2_2
  go_wp2_with fail
  refine (l_toRoom c20 c21 c22 _).mono ?_
  rintro e x7 ⟨rfl, hbx7⟩
  have szx7 := hbx7.size
  go_wp2_with fail
  refine (HI.out _ _ _ (((xs0).kept hbx6).kept hbx7) ((xs1).kept hbx7) lb0).mono ?_
  rintro e x8 ⟨rfl, hbx8⟩
  have szx8 := hbx8.size
  go_wp2_with fail
  refine (toGroupS_sl _ n0 f0a f0b f0c f0d _ (HSA0.kept (kept_trans (kept_trans (kept_trans (kept_trans (kept_trans (kept_trans (kept_trans (kept_trans (Kz0) hdx1) hbx2) hbx3) hbx4) hbx5) hbx6) hbx7) hbx8)) ln0).mono ?_
  rintro e x9 ⟨rfl, hbx9, hux9, -⟩
  have szx9 := hbx9.size
  go_wp2_with fail
  refine (eqGroupS_any _ _ n0 f0a f0b f0c f0d _ (((((xs0).kept hbx6).kept hbx7).kept hbx8).kept hbx9) hux9).mono ?_
  rintro e x10 ⟨rfl, hbx10⟩
  have szx10 := hbx10.size
  go_wp2_with fail
  refine (toInt64S_sl _ n1 f1a _ (HSA1.kept (kept_trans (kept_trans (kept_trans (kept_trans (kept_trans (kept_trans (kept_trans (kept_trans (kept_trans (kept_trans (Kz0) hdx1) hbx2) hbx3) hbx4) hbx5) hbx6) hbx7) hbx8) hbx9) hbx10))).mono ?_
  rintro e x11 ⟨rfl, hbx11, hux11⟩
  have szx11 := hbx11.size
  go_wp2_with fail
  refine (eqInt64S_any _ _ n1 f1a _ ((((((xs1).kept hbx7).kept hbx8).kept hbx9).kept hbx10).kept hbx11) hux11).mono ?_
  rintro e x12 ⟨rfl, hbx12⟩
  have szx12 := hbx12.size
  go_wp2_with fail
  go_ret
  exact ⟨rfl, kept_trans KB0 (kept_trans (kept_trans (kept_trans (kept_trans (kept_trans (kept_trans (kept_trans (kept_trans (kept_trans (kept_trans (kept_trans (kept_trans (Kz0) hdx1) hbx2) hbx3) hbx4) hbx5) hbx6) hbx7) hbx8) hbx9) hbx10) hbx11) hbx12)⟩

theorem l_TicketLeft_of {W : World} (v0 : Value) (n0 : Nat) (f0a : Nat → ByteArray) (f0b : Nat → Int) (f0c : Nat → Int) (f0d : Nat → Int) (c10 : ByteArray) (c11 : Int) (c12 : Int) (a2 : Int) (hs0 : Sl W v0 4 n0 (gc f0a f0b f0c f0d)) (hx0 : Hid (∀ i, i < n0 → ((f0a i).size : Int) ≤ 9223372036854775807)) (hc1 : (c10.size : Int) ≤ 9223372036854775807)
    (r0 : Int) (r1 : Int)
    (HQ : Hid (∀ w u0, Sl w u0 4 n0 (gc f0a f0b f0c f0d) → Hid (∀ i, i < n0 → ((f0a i).size : Int) ≤ 1048576) → ((c10.size : Nat) : Int) ≤ 1048576 → Calls Try.prog 52 #[u0, .agg #[.string c10, .int .i64 c11, .int .i64 c12], .int .i64 a2] w (fun en w' => en = .returned (.tuple #[.int .i64 r0, .int .i64 r1]) ∧ Below w.heap.size w w')))
    (HI : Hid (∀ w u0, Sl w u0 4 n0 (gc f0a f0b f0c f0d) → Hid (∀ i, i < n0 → ((f0a i).size : Int) ≤ 1048576) → ((c10.size : Nat) : Int) ≤ 1048576 → Calls Try.prog 54 #[u0, .agg #[.string c10, .int .i64 c11, .int .i64 c12], .int .i64 a2] w (fun en w' => en = .returned (.tuple #[.int .i64 r0, .int .i64 r1]) ∧ Below w.heap.size w w'))) :
    Calls Try.prog 13 #[v0, .agg #[.string c10, .int .i64 c11, .int .i64 c12], .int .i64 a2] W (Truly W) := by
  have HS0 := hs0
  have hn0 := hs0.1
  obtain ⟨-, ao0, cap0, rfl, hr⟩ := hs0
  clear hr
  have hn0' : (n0 : Int) ≤ 17592186044416 := by omega
  have HSA0 := HS0.kept (kept_alloc (Below.refl _ _) (.cells #[.string c10, .int .i64 c11, .int .i64 c12] 66))
  have qb1_0 : (W.alloc (.cells #[.string c10, .int .i64 c11, .int .i64 c12] 66)).cell? ⟨W.heap.size, 0, none⟩ = some (.string c10) := boxed_at rfl rfl
  have qb1_1 : (W.alloc (.cells #[.string c10, .int .i64 c11, .int .i64 c12] 66)).cell? ⟨W.heap.size, 1, none⟩ = some (.int .i64 c11) := boxed_at rfl rfl
  have qb1_2 : (W.alloc (.cells #[.string c10, .int .i64 c11, .int .i64 c12] 66)).cell? ⟨W.heap.size, 2, none⟩ = some (.int .i64 c12) := boxed_at rfl rfl
  have KB0 : Below W.heap.size W (W.alloc (.cells #[.string c10, .int .i64 c11, .int .i64 c12] 66)) := kept_alloc (Below.refl _ _) (.cells #[.string c10, .int .i64 c11, .int .i64 c12] 66)
  go_enter Try.func13, Try.ntmps13
  go_wp2_with fail
  refine (sz_FareS _ n0 f0a f0b f0c f0d _ _ HSA0 (by omega) hx0).mono ?_
  rintro e z0 ⟨rz0, rfl, hzz0, hqz0, hwz0⟩
  have Kz0 : Below (W.alloc (.cells #[.string c10, .int .i64 c11, .int .i64 c12] 66)).heap.size (W.alloc (.cells #[.string c10, .int .i64 c11, .int .i64 c12] 66)) z0 := hwz0
  obtain ⟨hzz0a, hzz0b⟩ := hzz0
  by_cases hlz0 : rz0 < 0
  · go_wp2_with fail
    go_ret
    exact ⟨rfl, kept_trans KB0 Kz0⟩
  have hlz0' : 0 ≤ rz0 := by omega
  have ln0 : (n0 : Int) ≤ 1048576 := by have := (hqz0.out hlz0').1; omega
  have lb0 : Hid (∀ i, i < n0 → ((f0a i).size : Int) ≤ 1048576) := (hqz0.out hlz0').2
  have qs1_0 := cell_keep Kz0 qb1_0
  have qs1_1 := cell_keep Kz0 qb1_1
  have qs1_2 := cell_keep Kz0 qb1_2
  go_wp2_with fail
  refine (sz_Ticket c10 c11 c12 _ _ (by omega) hc1).mono ?_
  rintro e z1 ⟨rz1, rfl, hzz1, hqz1, hwz1⟩
  have Kz1 : Below (W.alloc (.cells #[.string c10, .int .i64 c11, .int .i64 c12] 66)).heap.size (W.alloc (.cells #[.string c10, .int .i64 c11, .int .i64 c12] 66)) z1 := kept_trans Kz0 hwz1
  obtain ⟨hzz1a, hzz1b⟩ := hzz1
  by_cases hlz1 : rz1 < 0
  · go_wp2_with fail
    go_ret
    exact ⟨rfl, kept_trans KB0 Kz1⟩
  have hlz1' : 0 ≤ rz1 := by omega
  have lc1 : ((c10.size : Nat) : Int) ≤ 1048576 := by have := hqz1.out hlz1'; omega
  have qn1_0 := cell_keep (Kz1) qb1_0
  have qn1_1 := cell_keep (Kz1) qb1_1
  have qn1_2 := cell_keep (Kz1) qb1_2
  go_wp2_with fail
  go_region_held3 (fun w' => w'.cell? ⟨W.heap.size, 0, none⟩ = some (.string c10) ∧ w'.cell? ⟨W.heap.size, 1, none⟩ = some (.int .i64 c11) ∧ w'.cell? ⟨W.heap.size, 2, none⟩ = some (.int .i64 c12)) (first | go_keep | (go_split_ands; refine ⟨?_, ?_, ?_⟩ <;> (first | exact cell_keep hbx3 (by assumption) | exact cell_keep hbx2 (by assumption) | exact cell_keep hbx1 (by assumption))) | ((try dsimp only); refine ⟨?_, ?_, ?_⟩ <;> go_keep)) (first | (go_at_call 40; refine (toFareS_sl _ n0 f0a f0b f0c f0d _ (HSA0.kept (kept_drew (Kz1))) ln0).mono ?_; rintro e x1 ⟨rfl, hbx1, hux1, -⟩) | (go_at_call 53; refine (l_toTicket c10 c11 c12 _).mono ?_; rintro e x2 ⟨rfl, hbx2⟩) | (go_at_call 52; refine (HQ.out _ _ ((hux1).kept hbx2) lb0 lc1).mono ?_; rintro e x3 ⟨rfl, hbx3⟩))
  have hdx1 : Below z1.heap.size z1 x1 := kept_trans (kept_drew (Below.refl _ _)) hbx1
  have szx1 := hdx1.size
  have szx2 := hbx2.size
  have szx3 := hbx3.size
  go_wp2_with fail
  refine (toFareS_any _ n0 f0a f0b f0c f0d _ (HSA0.kept (kept_trans (kept_trans (kept_trans (Kz1) hdx1) hbx2) hbx3)) ln0).mono ?_
  rintro e x4 ⟨rfl, hbx4, hr0⟩
  have szx4 := hbx4.size
  have xs0 : Sl x4 (.slice (some ⟨x3.heap.size, 0, none⟩) n0 n0) 4 n0 (gc f0a f0b f0c f0d) := Sl.of_row hn0 (Row.of_rowIs hr0)
  have xl0 := hr0.lt
  clear hr0
  have qo5_0 := cell_keep (kept_trans (kept_trans (kept_trans (kept_trans (Kz1) hdx1) hbx2) hbx3) hbx4) qb1_0
  have qo5_1 := cell_keep (kept_trans (kept_trans (kept_trans (kept_trans (Kz1) hdx1) hbx2) hbx3) hbx4) qb1_1
  have qo5_2 := cell_keep (kept_trans (kept_trans (kept_trans (kept_trans (Kz1) hdx1) hbx2) hbx3) hbx4) qb1_2
  go_wp2_with fail
  refine (l_toTicket c10 c11 c12 _).mono ?_
  rintro e x5 ⟨rfl, hbx5⟩
  have szx5 := hbx5.size
  go_wp2_with fail
  refine (HI.out _ _ ((xs0).kept hbx5) lb0 lc1).mono ?_
  rintro e x6 ⟨rfl, hbx6⟩
  have szx6 := hbx6.size
  go_wp2_with fail
  refine (toFareS_sl _ n0 f0a f0b f0c f0d _ (HSA0.kept (kept_trans (kept_trans (kept_trans (kept_trans (kept_trans (kept_trans (Kz1) hdx1) hbx2) hbx3) hbx4) hbx5) hbx6)) ln0).mono ?_
  rintro e x7 ⟨rfl, hbx7, hux7, -⟩
  have szx7 := hbx7.size
  go_wp2_with fail
  refine (eqFareS_any _ _ n0 f0a f0b f0c f0d _ ((((xs0).kept hbx5).kept hbx6).kept hbx7) hux7).mono ?_
  rintro e x8 ⟨rfl, hbx8⟩
  have szx8 := hbx8.size
  go_wp2_with fail
  go_ret
  exact ⟨rfl, kept_trans KB0 (kept_trans (kept_trans (kept_trans (kept_trans (kept_trans (kept_trans (kept_trans (kept_trans (Kz1) hdx1) hbx2) hbx3) hbx4) hbx5) hbx6) hbx7) hbx8)⟩

end Go.Proofs.Ytfnollbeeehpnaa
