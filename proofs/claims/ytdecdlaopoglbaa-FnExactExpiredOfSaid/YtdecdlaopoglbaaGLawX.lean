/- The walks of the laws themselves, over any answers of the two functions that they compare. -/
import Derived.Test.YtdecdlaopoglbaaFares
import Derived.Test.YtdecdlaopoglbaaTickets
import Derived.Test.YtdecdlaopoglbaaInts
import Derived.Test.YtdecdlaopoglbaaMarkF
import Derived.Deep.DeepMust
import Derived.Deep.RegionHeld3
import Derived.IntWalk
namespace Go.Proofs.Ytdecdlaopoglbaa
open Go.RowKit Go.Deep
set_option maxRecDepth 100000

theorem l_IncomeOf_of {W : World} (v0 : Value) (n0 : Nat) (f0a : Nat → ByteArray) (f0b : Nat → Int) (f0c : Nat → Int) (f0d : Nat → Int) (v1 : Value) (n1 : Nat) (f1a : Nat → ByteArray) (f1b : Nat → Int) (f1c : Nat → Int) (a2 : Int) (a3 : Int) (hs0 : Sl W v0 4 n0 (gc f0a f0b f0c f0d)) (hx0 : Hid (∀ i, i < n0 → ((f0a i).size : Int) ≤ 9223372036854775807)) (hs1 : Sl W v1 3 n1 (kc f1a f1b f1c)) (hx1 : Hid (∀ i, i < n1 → ((f1a i).size : Int) ≤ 9223372036854775807))
    (r0 : Int) (r1 : Int)
    (HQ : Hid (∀ w u0 u1, Sl w u0 4 n0 (gc f0a f0b f0c f0d) → Sl w u1 3 n1 (kc f1a f1b f1c) → Hid (∀ i, i < n0 → ((f0a i).size : Int) ≤ 1048576) → Hid (∀ i, i < n1 → ((f1a i).size : Int) ≤ 1048576) → ((n1 : Nat) : Int) ≤ 1048576 → Calls Try.prog 8 #[u0, u1, .int .i64 a2, .int .i64 a3] w (fun en w' => en = .returned (.tuple #[.int .i64 r0, .int .i64 r1]) ∧ Below w.heap.size w w')))
    (HI : Hid (∀ w u0 u1, Sl w u0 4 n0 (gc f0a f0b f0c f0d) → Sl w u1 3 n1 (kc f1a f1b f1c) → Hid (∀ i, i < n0 → ((f0a i).size : Int) ≤ 1048576) → Hid (∀ i, i < n1 → ((f1a i).size : Int) ≤ 1048576) → ((n1 : Nat) : Int) ≤ 1048576 → Calls Try.prog 11 #[u0, u1, .int .i64 a2, .int .i64 a3] w (fun en w' => en = .returned (.tuple #[.int .i64 r0, .int .i64 r1]) ∧ Below w.heap.size w w'))) :
    Calls Try.prog 3 #[v0, v1, .int .i64 a2, .int .i64 a3] W (Truly W) := by
  have HS0 := hs0
  have hn0 := hs0.1
  obtain ⟨-, ao0, cap0, rfl, hr⟩ := hs0
  clear hr
  have hn0' : (n0 : Int) ≤ 17592186044416 := by omega
  have HS1 := hs1
  have hn1 := hs1.1
  obtain ⟨-, ao1, cap1, rfl, hr⟩ := hs1
  clear hr
  have hn1' : (n1 : Int) ≤ 17592186044416 := by omega
  go_enter Try.func3, Try.ntmps3
  go_wp2_with fail
  refine (sz_FareS _ n0 f0a f0b f0c f0d _ _ HS0 (by omega) hx0).mono ?_
  rintro e z0 ⟨rz0, rfl, hzz0, hqz0, hwz0⟩
  have Kz0 : Below W.heap.size W z0 := hwz0
  obtain ⟨hzz0a, hzz0b⟩ := hzz0
  by_cases hlz0 : rz0 < 0
  · go_wp2_with fail
    go_ret
    exact ⟨rfl, Kz0⟩
  have hlz0' : 0 ≤ rz0 := by omega
  have ln0 : (n0 : Int) ≤ 1048576 := by have := (hqz0.out hlz0').1; omega
  have lb0 : Hid (∀ i, i < n0 → ((f0a i).size : Int) ≤ 1048576) := (hqz0.out hlz0').2
  go_wp2_with fail
  refine (sz_TicketS _ n1 f1a f1b f1c _ _ (HS1.kept Kz0) (by omega) hx1).mono ?_
  rintro e z1 ⟨rz1, rfl, hzz1, hqz1, hwz1⟩
  have Kz1 : Below W.heap.size W z1 := kept_trans Kz0 hwz1
  obtain ⟨hzz1a, hzz1b⟩ := hzz1
  by_cases hlz1 : rz1 < 0
  · go_wp2_with fail
    go_ret
    exact ⟨rfl, Kz1⟩
  have hlz1' : 0 ≤ rz1 := by omega
  have ln1 : (n1 : Int) ≤ 1048576 := by have := (hqz1.out hlz1').1; omega
  have lb1 : Hid (∀ i, i < n1 → ((f1a i).size : Int) ≤ 1048576) := (hqz1.out hlz1').2
  go_wp2_with fail
  refine (toFareS_sl _ n0 f0a f0b f0c f0d _ (HS0.kept (Kz1)) ln0).mono ?_
  rintro e x1 ⟨rfl, hbx1, hux1, -⟩
  have szx1 := hbx1.size
  go_wp2_with fail
  refine (toTicketS_sl _ n1 f1a f1b f1c _ (HS1.kept (kept_trans (Kz1) hbx1)) ln1).mono ?_
  rintro e x2 ⟨rfl, hbx2, hux2, -⟩
  have szx2 := hbx2.size
  go_wp2_with fail
  refine (HQ.out _ _ _ ((hux1).kept hbx2) (hux2) lb0 lb1 ln1).mono ?_
  rintro e x3 ⟨rfl, hbx3⟩
  have szx3 := hbx3.size
  go_wp2_with fail
  refine (toFareS_any _ n0 f0a f0b f0c f0d _ (HS0.kept (kept_trans (kept_trans (kept_trans (Kz1) hbx1) hbx2) hbx3)) ln0).mono ?_
  rintro e x4 ⟨rfl, hbx4, hr0⟩
  have szx4 := hbx4.size
  have xs0 : Sl x4 (.slice (some ⟨x3.heap.size, 0, none⟩) n0 n0) 4 n0 (gc f0a f0b f0c f0d) := Sl.of_row hn0 (Row.of_rowIs hr0)
  have xl0 := hr0.lt
  clear hr0
  go_wp2_with fail
  refine (toTicketS_any _ n1 f1a f1b f1c _ (HS1.kept (kept_trans (kept_trans (kept_trans (kept_trans (Kz1) hbx1) hbx2) hbx3) hbx4)) ln1).mono ?_
  rintro e x5 ⟨rfl, hbx5, hr1⟩
  have szx5 := hbx5.size
  have xs1 : Sl x5 (.slice (some ⟨x4.heap.size, 0, none⟩) n1 n1) 3 n1 (kc f1a f1b f1c) := Sl.of_row hn1 (Row.of_rowIs hr1)
  have xl1 := hr1.lt
  clear hr1
  go_wp2_with fail
  refine (HI.out _ _ _ ((xs0).kept hbx5) (xs1) lb0 lb1 ln1).mono ?_
  rintro e x6 ⟨rfl, hbx6⟩
  have szx6 := hbx6.size
  go_wp2_with fail
  refine (toFareS_sl _ n0 f0a f0b f0c f0d _ (HS0.kept (kept_trans (kept_trans (kept_trans (kept_trans (kept_trans (kept_trans (Kz1) hbx1) hbx2) hbx3) hbx4) hbx5) hbx6)) ln0).mono ?_
  rintro e x7 ⟨rfl, hbx7, hux7, -⟩
  have szx7 := hbx7.size
  go_wp2_with fail
  refine (eqFareS_any _ _ n0 f0a f0b f0c f0d _ ((((xs0).kept hbx5).kept hbx6).kept hbx7) hux7).mono ?_
  rintro e x8 ⟨rfl, hbx8⟩
  have szx8 := hbx8.size
  go_wp2_with fail
  refine (toTicketS_sl _ n1 f1a f1b f1c _ (HS1.kept (kept_trans (kept_trans (kept_trans (kept_trans (kept_trans (kept_trans (kept_trans (kept_trans (Kz1) hbx1) hbx2) hbx3) hbx4) hbx5) hbx6) hbx7) hbx8)) ln1).mono ?_
  rintro e x9 ⟨rfl, hbx9, hux9, -⟩
  have szx9 := hbx9.size
  go_wp2_with fail
  refine (eqTicketS_any _ _ n1 f1a f1b f1c _ (((((xs1).kept hbx6).kept hbx7).kept hbx8).kept hbx9) hux9).mono ?_
  rintro e x10 ⟨rfl, hbx10⟩
  have szx10 := hbx10.size
  go_wp2_with fail
  go_ret
  exact ⟨rfl, kept_trans (kept_trans (kept_trans (kept_trans (kept_trans (kept_trans (kept_trans (kept_trans (kept_trans (kept_trans (Kz1) hbx1) hbx2) hbx3) hbx4) hbx5) hbx6) hbx7) hbx8) hbx9) hbx10⟩

theorem l_ExpiredOf_of {W : World} (v0 : Value) (n0 : Nat) (f0a : Nat → ByteArray) (f0b : Nat → Int) (f0c : Nat → Int) (f0d : Nat → Int) (v1 : Value) (n1 : Nat) (f1a : Nat → ByteArray) (f1b : Nat → Int) (f1c : Nat → Int) (a2 : Int) (hs0 : Sl W v0 4 n0 (gc f0a f0b f0c f0d)) (hx0 : Hid (∀ i, i < n0 → ((f0a i).size : Int) ≤ 9223372036854775807)) (hs1 : Sl W v1 3 n1 (kc f1a f1b f1c)) (hx1 : Hid (∀ i, i < n1 → ((f1a i).size : Int) ≤ 9223372036854775807))
    (m0 : Nat) (r0a : Nat → Int) (hm0 : m0 ≤ 17592186044416) (r1 : Int)
    (HQ : Hid (∀ w u0 u1, Sl w u0 4 n0 (gc f0a f0b f0c f0d) → Sl w u1 3 n1 (kc f1a f1b f1c) → Hid (∀ i, i < n0 → ((f0a i).size : Int) ≤ 1048576) → Hid (∀ i, i < n1 → ((f1a i).size : Int) ≤ 1048576) → ((n1 : Nat) : Int) ≤ 1048576 → Calls Try.prog 23 #[u0, u1, .int .i64 a2] w (fun en w' => ∃ g0, en = .returned (.tuple #[g0, .int .i64 r1]) ∧ Below w.heap.size w w' ∧ Out w' w.heap.size 2 1 g0 m0 (ic r0a))))
    (HI : Hid (∀ w u0 u1, Sl w u0 4 n0 (gc f0a f0b f0c f0d) → Sl w u1 3 n1 (kc f1a f1b f1c) → Hid (∀ i, i < n0 → ((f0a i).size : Int) ≤ 1048576) → Hid (∀ i, i < n1 → ((f1a i).size : Int) ≤ 1048576) → ((n1 : Nat) : Int) ≤ 1048576 → Calls Try.prog 24 #[u0, u1, .int .i64 a2] w (fun en w' => ∃ g0, en = .returned (.tuple #[g0, .int .i64 r1]) ∧ Below w.heap.size w w' ∧ Out w' w.heap.size 2 1 g0 m0 (ic r0a)))) :
    Calls Try.prog 5 #[v0, v1, .int .i64 a2] W (Truly W) := by
  have HS0 := hs0
  have hn0 := hs0.1
  obtain ⟨-, ao0, cap0, rfl, hr⟩ := hs0
  clear hr
  have hn0' : (n0 : Int) ≤ 17592186044416 := by omega
  have HS1 := hs1
  have hn1 := hs1.1
  obtain ⟨-, ao1, cap1, rfl, hr⟩ := hs1
  clear hr
  have hn1' : (n1 : Int) ≤ 17592186044416 := by omega
  have hm0' : (m0 : Int) ≤ 17592186044416 := by omega
  go_enter Try.func5, Try.ntmps5
  go_wp2_with fail
  refine (sz_FareS _ n0 f0a f0b f0c f0d _ _ HS0 (by omega) hx0).mono ?_
  rintro e z0 ⟨rz0, rfl, hzz0, hqz0, hwz0⟩
  have Kz0 : Below W.heap.size W z0 := hwz0
  obtain ⟨hzz0a, hzz0b⟩ := hzz0
  by_cases hlz0 : rz0 < 0
  · go_wp2_with fail
    go_ret
    exact ⟨rfl, Kz0⟩
  have hlz0' : 0 ≤ rz0 := by omega
  have ln0 : (n0 : Int) ≤ 1048576 := by have := (hqz0.out hlz0').1; omega
  have lb0 : Hid (∀ i, i < n0 → ((f0a i).size : Int) ≤ 1048576) := (hqz0.out hlz0').2
  go_wp2_with fail
  refine (sz_TicketS _ n1 f1a f1b f1c _ _ (HS1.kept Kz0) (by omega) hx1).mono ?_
  rintro e z1 ⟨rz1, rfl, hzz1, hqz1, hwz1⟩
  have Kz1 : Below W.heap.size W z1 := kept_trans Kz0 hwz1
  obtain ⟨hzz1a, hzz1b⟩ := hzz1
  by_cases hlz1 : rz1 < 0
  · go_wp2_with fail
    go_ret
    exact ⟨rfl, Kz1⟩
  have hlz1' : 0 ≤ rz1 := by omega
  have ln1 : (n1 : Int) ≤ 1048576 := by have := (hqz1.out hlz1').1; omega
  have lb1 : Hid (∀ i, i < n1 → ((f1a i).size : Int) ≤ 1048576) := (hqz1.out hlz1').2
  go_wp2_with fail
  refine (toFareS_sl _ n0 f0a f0b f0c f0d _ (HS0.kept (Kz1)) ln0).mono ?_
  rintro e x1 ⟨rfl, hbx1, hux1, -⟩
  have szx1 := hbx1.size
  go_wp2_with fail
  refine (toTicketS_sl _ n1 f1a f1b f1c _ (HS1.kept (kept_trans (Kz1) hbx1)) ln1).mono ?_
  rintro e x2 ⟨rfl, hbx2, hux2, -⟩
  have szx2 := hbx2.size
  go_wp2_with fail
  refine (HQ.out _ _ _ ((hux1).kept hbx2) (hux2) lb0 lb1 ln1).mono ?_
  rintro e x3 ⟨w0, rfl, hbx3, how0⟩
  have szx3 := hbx3.size
  go_wp2_with fail
  refine (toFareS_any _ n0 f0a f0b f0c f0d _ (HS0.kept (kept_trans (kept_trans (kept_trans (Kz1) hbx1) hbx2) hbx3)) ln0).mono ?_
  rintro e x4 ⟨rfl, hbx4, hr0⟩
  have szx4 := hbx4.size
  have xs0 : Sl x4 (.slice (some ⟨x3.heap.size, 0, none⟩) n0 n0) 4 n0 (gc f0a f0b f0c f0d) := Sl.of_row hn0 (Row.of_rowIs hr0)
  have xm0 : Mine x4 (.slice (some ⟨x3.heap.size, 0, none⟩) n0 n0) 4 n0 := Mine.of_row hn0 hr0 (by omega)
  have xl0 := hr0.lt
  clear hr0
  go_wp2_with fail
  refine (toTicketS_any _ n1 f1a f1b f1c _ (HS1.kept (kept_trans (kept_trans (kept_trans (kept_trans (Kz1) hbx1) hbx2) hbx3) hbx4)) ln1).mono ?_
  rintro e x5 ⟨rfl, hbx5, hr1⟩
  have szx5 := hbx5.size
  have xs1 : Sl x5 (.slice (some ⟨x4.heap.size, 0, none⟩) n1 n1) 3 n1 (kc f1a f1b f1c) := Sl.of_row hn1 (Row.of_rowIs hr1)
  have xm1 : Mine x5 (.slice (some ⟨x4.heap.size, 0, none⟩) n1 n1) 3 n1 := Mine.of_row hn1 hr1 (by omega)
  have xl1 := hr1.lt
  clear hr1
  go_wp2_with fail
  refine (HI.out _ _ _ ((xs0).kept hbx5) (xs1) lb0 lb1 ln1).mono ?_
  rintro e x6 ⟨g0, rfl, hbx6, hog0⟩
  have szx6 := hbx6.size
  go_wp2_with fail
  refine (eqInt64S_any _ _ m0 r0a _ (hog0.sl hm0) (((how0.sl hm0)).kept (kept_trans (kept_trans (hbx4) hbx5) hbx6))).mono ?_
  rintro e x7 ⟨rfl, hbx7⟩
  have szx7 := hbx7.size
  go_wp2_with fail
  refine (toFareS_sl _ n0 f0a f0b f0c f0d _ (HS0.kept (kept_trans (kept_trans (kept_trans (kept_trans (kept_trans (kept_trans (kept_trans (Kz1) hbx1) hbx2) hbx3) hbx4) hbx5) hbx6) hbx7)) ln0).mono ?_
  rintro e x8 ⟨rfl, hbx8, hux8, -⟩
  have szx8 := hbx8.size
  go_wp2_with fail
  refine (eqFareS_any _ _ n0 f0a f0b f0c f0d _ (((((xs0).kept hbx5).kept hbx6).kept hbx7).kept hbx8) hux8).mono ?_
  rintro e x9 ⟨rfl, hbx9⟩
  have szx9 := hbx9.size
  go_wp2_with fail
  refine (toTicketS_sl _ n1 f1a f1b f1c _ (HS1.kept (kept_trans (kept_trans (kept_trans (kept_trans (kept_trans (kept_trans (kept_trans (kept_trans (kept_trans (Kz1) hbx1) hbx2) hbx3) hbx4) hbx5) hbx6) hbx7) hbx8) hbx9)) ln1).mono ?_
  rintro e x10 ⟨rfl, hbx10, hux10, -⟩
  have szx10 := hbx10.size
  go_wp2_with fail
  refine (eqTicketS_any _ _ n1 f1a f1b f1c _ ((((((xs1).kept hbx6).kept hbx7).kept hbx8).kept hbx9).kept hbx10) hux10).mono ?_
  rintro e x11 ⟨rfl, hbx11⟩
  have szx11 := hbx11.size
  go_wp2_with fail
  refine (markFareS_any _ n0 _ _ ((((((((xm0).kept hbx5).kept hbx6).kept hbx7).kept hbx8).kept hbx9).kept hbx10).kept hbx11) (by omega) (by omega)).mono ?_
  rintro e x12 ⟨rfl, hgx12, -, -⟩
  have rwx12 : ∀ b, (Value.slice (some ⟨x3.heap.size, 0, none⟩) n0 n0).ownBlock = some b → x3.heap.size ≤ b := fun b hb => by simp [Value.ownBlock] at hb; omega
  have rWx12 : ∀ b, (Value.slice (some ⟨x3.heap.size, 0, none⟩) n0 n0).ownBlock = some b → W.heap.size ≤ b := fun b hb => by have := (kept_trans (kept_trans (kept_trans (Kz1) hbx1) hbx2) hbx3).size; have := rwx12 b hb; omega
  have fgx12_0 : ∀ b, g0.ownBlock = some b → some b ≠ (Value.slice (some ⟨x3.heap.size, 0, none⟩) n0 n0).ownBlock := fun b hb he => by have h1 := (hog0.base b hb).1; simp [Value.ownBlock] at he; omega
  have fxx12_1 : ∀ b, (Value.slice (some ⟨x4.heap.size, 0, none⟩) n1 n1).ownBlock = some b → some b ≠ (Value.slice (some ⟨x3.heap.size, 0, none⟩) n0 n0).ownBlock := fun b hb he => by simp [Value.ownBlock] at hb he; omega
  have szx12 := hgx12.size
  go_wp2_with fail
  refine (markTicketS_any _ n1 _ _ ((((((((xm1).kept hbx6).kept hbx7).kept hbx8).kept hbx9).kept hbx10).kept hbx11).far hgx12 fxx12_1) (by omega) (by omega)).mono ?_
  rintro e x13 ⟨rfl, hgx13, -, -⟩
  have rwx13 : ∀ b, (Value.slice (some ⟨x4.heap.size, 0, none⟩) n1 n1).ownBlock = some b → x3.heap.size ≤ b := fun b hb => by simp [Value.ownBlock] at hb; omega
  have rWx13 : ∀ b, (Value.slice (some ⟨x4.heap.size, 0, none⟩) n1 n1).ownBlock = some b → W.heap.size ≤ b := fun b hb => by have := (kept_trans (kept_trans (kept_trans (Kz1) hbx1) hbx2) hbx3).size; have := rwx13 b hb; omega
  have fgx13_0 : ∀ b, g0.ownBlock = some b → some b ≠ (Value.slice (some ⟨x4.heap.size, 0, none⟩) n1 n1).ownBlock := fun b hb he => by have h1 := (hog0.base b hb).1; simp [Value.ownBlock] at he; omega
  have fxx13_0 : ∀ b, (Value.slice (some ⟨x3.heap.size, 0, none⟩) n0 n0).ownBlock = some b → some b ≠ (Value.slice (some ⟨x4.heap.size, 0, none⟩) n1 n1).ownBlock := fun b hb he => by simp [Value.ownBlock] at hb he; omega
  have szx13 := hgx13.size
  go_wp2_with fail
  refine (eqInt64S_any _ _ m0 r0a _ ((((((((hog0.sl hm0).kept hbx7).kept hbx8).kept hbx9).kept hbx10).kept hbx11).far hgx12 fgx12_0).far hgx13 fgx13_0) ((how0.sl hm0).kept (kept_grown (kept_grown (kept_trans (kept_trans (kept_trans (kept_trans (kept_trans (kept_trans (kept_trans (hbx4) hbx5) hbx6) hbx7) hbx8) hbx9) hbx10) hbx11) hgx12 rwx12) hgx13 rwx13))).mono ?_
  rintro e x14 ⟨rfl, hbx14⟩
  have szx14 := hbx14.size
  go_wp2_with fail
  refine (markInt64S_any _ m0 _ _ (((((((((hog0.mine hm0).kept hbx7).kept hbx8).kept hbx9).kept hbx10).kept hbx11).far hgx12 fgx12_0).far hgx13 fgx13_0).kept hbx14) (by omega) (by omega)).mono ?_
  rintro e x15 ⟨rfl, hgx15, sm0, -⟩
  have szx15 := hgx15.size
  have rwx15 : ∀ b, g0.ownBlock = some b → x3.heap.size ≤ b := fun b hb => by have := (hog0.base b hb).1; omega
  have rWx15 : ∀ b, g0.ownBlock = some b → W.heap.size ≤ b := fun b hb => by have := (kept_trans (kept_trans (kept_trans (Kz1) hbx1) hbx2) hbx3).size; have := rwx15 b hb; omega
  go_wp2_with fail
  refine (heldInt64S_any _ m0 _ _ (sm0) (by omega) (by omega)).mono ?_
  rintro e x16 ⟨rfl, hbx16⟩
  have szx16 := hbx16.size
  go_wp2_with fail
  refine (toFareS_sl _ n0 f0a f0b f0c f0d _ (HS0.kept (kept_trans (kept_grown (kept_trans (kept_grown (kept_grown (kept_trans (kept_trans (kept_trans (kept_trans (kept_trans (kept_trans (kept_trans (kept_trans (kept_trans (kept_trans (kept_trans (Kz1) hbx1) hbx2) hbx3) hbx4) hbx5) hbx6) hbx7) hbx8) hbx9) hbx10) hbx11) hgx12 rWx12) hgx13 rWx13) hbx14) hgx15 rWx15) hbx16)) ln0).mono ?_
  rintro e x17 ⟨rfl, hbx17, hux17, -⟩
  have szx17 := hbx17.size
  go_wp2_with fail
  refine (toTicketS_sl _ n1 f1a f1b f1c _ (HS1.kept (kept_trans (kept_trans (kept_grown (kept_trans (kept_grown (kept_grown (kept_trans (kept_trans (kept_trans (kept_trans (kept_trans (kept_trans (kept_trans (kept_trans (kept_trans (kept_trans (kept_trans (Kz1) hbx1) hbx2) hbx3) hbx4) hbx5) hbx6) hbx7) hbx8) hbx9) hbx10) hbx11) hgx12 rWx12) hgx13 rWx13) hbx14) hgx15 rWx15) hbx16) hbx17)) ln1).mono ?_
  rintro e x18 ⟨rfl, hbx18, hux18, -⟩
  have szx18 := hbx18.size
  go_wp2_with fail
  refine (HI.out _ _ _ ((hux17).kept hbx18) (hux18) lb0 lb1 ln1).mono ?_
  rintro e x19 ⟨h0, rfl, hbx19, hoh0⟩
  have szx19 := hbx19.size
  go_wp2_with fail
  refine (eqInt64S_any _ _ m0 r0a _ (hoh0.sl hm0) ((how0.sl hm0).kept (kept_trans (kept_trans (kept_trans (kept_trans (kept_grown (kept_trans (kept_grown (kept_grown (kept_trans (kept_trans (kept_trans (kept_trans (kept_trans (kept_trans (kept_trans (hbx4) hbx5) hbx6) hbx7) hbx8) hbx9) hbx10) hbx11) hgx12 rwx12) hgx13 rwx13) hbx14) hgx15 rwx15) hbx16) hbx17) hbx18) hbx19))).mono ?_
  rintro e x20 ⟨rfl, hbx20⟩
  have szx20 := hbx20.size
  go_wp2_with fail
  refine (heldInt64S_any _ m0 _ _ ((((((sm0).kept hbx16).kept hbx17).kept hbx18).kept hbx19).kept hbx20) (by omega) (by omega)).mono ?_
  rintro e x21 ⟨rfl, hbx21⟩
  have szx21 := hbx21.size
  go_wp2_with fail
  go_ret
  exact ⟨rfl, kept_trans (kept_trans (kept_trans (kept_trans (kept_trans (kept_trans (kept_grown (kept_trans (kept_grown (kept_grown (kept_trans (kept_trans (kept_trans (kept_trans (kept_trans (kept_trans (kept_trans (kept_trans (kept_trans (kept_trans (kept_trans (Kz1) hbx1) hbx2) hbx3) hbx4) hbx5) hbx6) hbx7) hbx8) hbx9) hbx10) hbx11) hgx12 rWx12) hgx13 rWx13) hbx14) hgx15 rWx15) hbx16) hbx17) hbx18) hbx19) hbx20) hbx21⟩

end Go.Proofs.Ytdecdlaopoglbaa
