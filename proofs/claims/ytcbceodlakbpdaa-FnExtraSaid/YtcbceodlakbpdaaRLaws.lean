/- The walks of the laws themselves, over any answers of the two functions that they compare. -/
import Derived.Test.YtcbceodlakbpdaaRides
import Derived.Test.YtcbceodlakbpdaaAggs
import Derived.Test.YtcbceodlakbpdaaNext
import Derived.Deep.DeepMust
import Derived.Deep.RegionHeld3
import Derived.IntWalk
namespace Go.Proofs.Ytcbceodlakbpdaa
open Go.RowKit Go.Deep

theorem l_DelayedRides_of {W : World} (v0 : Value) (n0 : Nat) (f0a : Nat → Int) (f0b : Nat → Int) (a1 : Int) (a2 : Int) (a3 : Int) (hs0 : Sl W v0 2 n0 (rc f0a f0b))
    (m0 : Nat) (r0a : Nat → Int) (hm0 : m0 ≤ 17592186044416) (r1 : Int)
    (HQ : Hid (∀ w u0, Sl w u0 2 n0 (rc f0a f0b) → Calls Try.prog 31 #[u0, .int .i64 a1, .int .i64 a2, .int .i64 a3] w (fun en w' => ∃ g0, en = .returned (.tuple #[g0, .int .i64 r1]) ∧ Below w.heap.size w w' ∧ Out w' w.heap.size 2 1 g0 m0 (ic r0a))))
    (HI : Hid (∀ w u0, Sl w u0 2 n0 (rc f0a f0b) → Calls Try.prog 32 #[u0, .int .i64 a1, .int .i64 a2, .int .i64 a3] w (fun en w' => ∃ g0, en = .returned (.tuple #[g0, .int .i64 r1]) ∧ Below w.heap.size w w' ∧ Out w' w.heap.size 2 1 g0 m0 (ic r0a)))) :
    Calls Try.prog 9 #[v0, .int .i64 a1, .int .i64 a2, .int .i64 a3] W (Truly W) := by
  have HS0 := hs0
  have hn0 := hs0.1
  obtain ⟨-, ao0, cap0, rfl, hr⟩ := hs0
  clear hr
  have hn0' : (n0 : Int) ≤ 17592186044416 := by omega
  have hm0' : (m0 : Int) ≤ 17592186044416 := by omega
  go_enter Try.func9, Try.ntmps9
  go_wp2_with fail
  refine (sz_rides _ n0 _ _ _ (by omega)).mono ?_
  rintro e z0 ⟨rz0, rfl, hzz0, hqz0, hwz0⟩
  have Kz0 : Below W.heap.size W z0 := hwz0
  obtain ⟨hzz0a, hzz0b⟩ := hzz0
  by_cases hlz0 : rz0 < 0
  · go_wp2_with fail
    go_ret
    exact ⟨rfl, Kz0⟩
  have hlz0' : 0 ≤ rz0 := by omega
  go_wp2_with fail
  refine (toRideS_sl _ n0 f0a f0b _ (HS0.kept (Kz0))).mono ?_
  rintro e x1 ⟨rfl, hbx1, hux1, -⟩
  have szx1 := hbx1.size
  go_wp2_with fail
  refine (HQ.out _ _ (hux1)).mono ?_
  rintro e x2 ⟨w0, rfl, hbx2, how0⟩
  have szx2 := hbx2.size
  go_wp2_with fail
  refine (toRideS_any _ n0 f0a f0b _ (HS0.kept (kept_trans (kept_trans (Kz0) hbx1) hbx2))).mono ?_
  rintro e x3 ⟨rfl, hbx3, hr0⟩
  have szx3 := hbx3.size
  have xs0 : Sl x3 (.slice (some ⟨x2.heap.size, 0, none⟩) n0 n0) 2 n0 (rc f0a f0b) := Sl.of_row hn0 (Row.of_rowIs hr0)
  have xm0 : Mine x3 (.slice (some ⟨x2.heap.size, 0, none⟩) n0 n0) 2 n0 := Mine.of_row hn0 hr0 (by omega)
  have xl0 := hr0.lt
  clear hr0
  go_wp2_with fail
  refine (HI.out _ _ (xs0)).mono ?_
  rintro e x4 ⟨g0, rfl, hbx4, hog0⟩
  have szx4 := hbx4.size
  go_wp2_with fail
  refine (eqInt64S_any _ _ m0 r0a _ (hog0.sl hm0) (((how0.sl hm0)).kept (kept_trans (hbx3) hbx4))).mono ?_
  rintro e x5 ⟨rfl, hbx5⟩
  have szx5 := hbx5.size
  go_wp2_with fail
  refine (toRideS_sl _ n0 f0a f0b _ (HS0.kept (kept_trans (kept_trans (kept_trans (kept_trans (kept_trans (Kz0) hbx1) hbx2) hbx3) hbx4) hbx5))).mono ?_
  rintro e x6 ⟨rfl, hbx6, hux6, -⟩
  have szx6 := hbx6.size
  go_wp2_with fail
  refine (eqRideS_any _ _ n0 f0a f0b _ ((((xs0).kept hbx4).kept hbx5).kept hbx6) hux6).mono ?_
  rintro e x7 ⟨rfl, hbx7⟩
  have szx7 := hbx7.size
  go_wp2_with fail
  refine (markRideS_any _ n0 _ _ (((((xm0).kept hbx4).kept hbx5).kept hbx6).kept hbx7) (by omega) (by omega)).mono ?_
  rintro e x8 ⟨rfl, hgx8, -, -⟩
  have rwx8 : ∀ b, (Value.slice (some ⟨x2.heap.size, 0, none⟩) n0 n0).ownBlock = some b → x2.heap.size ≤ b := fun b hb => by simp [Value.ownBlock] at hb; omega
  have rWx8 : ∀ b, (Value.slice (some ⟨x2.heap.size, 0, none⟩) n0 n0).ownBlock = some b → W.heap.size ≤ b := fun b hb => by have := (kept_trans (kept_trans (Kz0) hbx1) hbx2).size; have := rwx8 b hb; omega
  have fgx8_0 : ∀ b, g0.ownBlock = some b → some b ≠ (Value.slice (some ⟨x2.heap.size, 0, none⟩) n0 n0).ownBlock := fun b hb he => by have h1 := (hog0.base b hb).1; simp [Value.ownBlock] at he; omega
  have szx8 := hgx8.size
  go_wp2_with fail
  refine (eqInt64S_any _ _ m0 r0a _ (((((hog0.sl hm0).kept hbx5).kept hbx6).kept hbx7).far hgx8 fgx8_0) ((how0.sl hm0).kept (kept_grown (kept_trans (kept_trans (kept_trans (kept_trans (hbx3) hbx4) hbx5) hbx6) hbx7) hgx8 rwx8))).mono ?_
  rintro e x9 ⟨rfl, hbx9⟩
  have szx9 := hbx9.size
  go_wp2_with fail
  refine (markInt64S_any _ m0 _ _ ((((((hog0.mine hm0).kept hbx5).kept hbx6).kept hbx7).far hgx8 fgx8_0).kept hbx9) (by omega) (by omega)).mono ?_
  rintro e x10 ⟨rfl, hgx10, sm0, -⟩
  have szx10 := hgx10.size
  have rwx10 : ∀ b, g0.ownBlock = some b → x2.heap.size ≤ b := fun b hb => by have := (hog0.base b hb).1; omega
  have rWx10 : ∀ b, g0.ownBlock = some b → W.heap.size ≤ b := fun b hb => by have := (kept_trans (kept_trans (Kz0) hbx1) hbx2).size; have := rwx10 b hb; omega
  go_wp2_with fail
  refine (heldInt64S_any _ m0 _ _ (sm0) (by omega) (by omega)).mono ?_
  rintro e x11 ⟨rfl, hbx11⟩
  have szx11 := hbx11.size
  go_wp2_with fail
  refine (toRideS_sl _ n0 f0a f0b _ (HS0.kept (kept_trans (kept_grown (kept_trans (kept_grown (kept_trans (kept_trans (kept_trans (kept_trans (kept_trans (kept_trans (kept_trans (Kz0) hbx1) hbx2) hbx3) hbx4) hbx5) hbx6) hbx7) hgx8 rWx8) hbx9) hgx10 rWx10) hbx11))).mono ?_
  rintro e x12 ⟨rfl, hbx12, hux12, -⟩
  have szx12 := hbx12.size
  go_wp2_with fail
  refine (HI.out _ _ (hux12)).mono ?_
  rintro e x13 ⟨h0, rfl, hbx13, hoh0⟩
  have szx13 := hbx13.size
  go_wp2_with fail
  refine (eqInt64S_any _ _ m0 r0a _ (hoh0.sl hm0) ((how0.sl hm0).kept (kept_trans (kept_trans (kept_trans (kept_grown (kept_trans (kept_grown (kept_trans (kept_trans (kept_trans (kept_trans (hbx3) hbx4) hbx5) hbx6) hbx7) hgx8 rwx8) hbx9) hgx10 rwx10) hbx11) hbx12) hbx13))).mono ?_
  rintro e x14 ⟨rfl, hbx14⟩
  have szx14 := hbx14.size
  go_wp2_with fail
  refine (heldInt64S_any _ m0 _ _ (((((sm0).kept hbx11).kept hbx12).kept hbx13).kept hbx14) (by omega) (by omega)).mono ?_
  rintro e x15 ⟨rfl, hbx15⟩
  have szx15 := hbx15.size
  go_wp2_with fail
  go_ret
  exact ⟨rfl, kept_trans (kept_trans (kept_trans (kept_trans (kept_trans (kept_grown (kept_trans (kept_grown (kept_trans (kept_trans (kept_trans (kept_trans (kept_trans (kept_trans (kept_trans (Kz0) hbx1) hbx2) hbx3) hbx4) hbx5) hbx6) hbx7) hgx8 rWx8) hbx9) hgx10 rWx10) hbx11) hbx12) hbx13) hbx14) hbx15⟩

theorem l_TotalDelay_of {W : World} (v0 : Value) (n0 : Nat) (f0a : Nat → Int) (f0b : Nat → Int) (a1 : Int) (a2 : Int) (a3 : Int) (hs0 : Sl W v0 2 n0 (rc f0a f0b))
    (r0 : Int) (r1 : Int)
    (HQ : Hid (∀ w u0, Sl w u0 2 n0 (rc f0a f0b) → Calls Try.prog 27 #[u0, .int .i64 a1, .int .i64 a2, .int .i64 a3] w (fun en w' => en = .returned (.tuple #[.int .i64 r0, .int .i64 r1]) ∧ Below w.heap.size w w')))
    (HI : Hid (∀ w u0, Sl w u0 2 n0 (rc f0a f0b) → Calls Try.prog 28 #[u0, .int .i64 a1, .int .i64 a2, .int .i64 a3] w (fun en w' => en = .returned (.tuple #[.int .i64 r0, .int .i64 r1]) ∧ Below w.heap.size w w'))) :
    Calls Try.prog 7 #[v0, .int .i64 a1, .int .i64 a2, .int .i64 a3] W (Truly W) := by
  have HS0 := hs0
  have hn0 := hs0.1
  obtain ⟨-, ao0, cap0, rfl, hr⟩ := hs0
  clear hr
  have hn0' : (n0 : Int) ≤ 17592186044416 := by omega
  go_enter Try.func7, Try.ntmps7
  go_wp2_with fail
  refine (sz_rides _ n0 _ _ _ (by omega)).mono ?_
  rintro e z0 ⟨rz0, rfl, hzz0, hqz0, hwz0⟩
  have Kz0 : Below W.heap.size W z0 := hwz0
  obtain ⟨hzz0a, hzz0b⟩ := hzz0
  by_cases hlz0 : rz0 < 0
  · go_wp2_with fail
    go_ret
    exact ⟨rfl, Kz0⟩
  have hlz0' : 0 ≤ rz0 := by omega
  go_wp2_with fail
  refine (toRideS_sl _ n0 f0a f0b _ (HS0.kept (Kz0))).mono ?_
  rintro e x1 ⟨rfl, hbx1, hux1, -⟩
  have szx1 := hbx1.size
  go_wp2_with fail
  refine (HQ.out _ _ (hux1)).mono ?_
  rintro e x2 ⟨rfl, hbx2⟩
  have szx2 := hbx2.size
  go_wp2_with fail
  refine (toRideS_any _ n0 f0a f0b _ (HS0.kept (kept_trans (kept_trans (Kz0) hbx1) hbx2))).mono ?_
  rintro e x3 ⟨rfl, hbx3, hr0⟩
  have szx3 := hbx3.size
  have xs0 : Sl x3 (.slice (some ⟨x2.heap.size, 0, none⟩) n0 n0) 2 n0 (rc f0a f0b) := Sl.of_row hn0 (Row.of_rowIs hr0)
  have xl0 := hr0.lt
  clear hr0
  go_wp2_with fail
  refine (HI.out _ _ (xs0)).mono ?_
  rintro e x4 ⟨rfl, hbx4⟩
  have szx4 := hbx4.size
  go_wp2_with fail
  refine (toRideS_sl _ n0 f0a f0b _ (HS0.kept (kept_trans (kept_trans (kept_trans (kept_trans (Kz0) hbx1) hbx2) hbx3) hbx4))).mono ?_
  rintro e x5 ⟨rfl, hbx5, hux5, -⟩
  have szx5 := hbx5.size
  go_wp2_with fail
  refine (eqRideS_any _ _ n0 f0a f0b _ (((xs0).kept hbx4).kept hbx5) hux5).mono ?_
  rintro e x6 ⟨rfl, hbx6⟩
  have szx6 := hbx6.size
  go_wp2_with fail
  go_ret
  exact ⟨rfl, kept_trans (kept_trans (kept_trans (kept_trans (kept_trans (kept_trans (Kz0) hbx1) hbx2) hbx3) hbx4) hbx5) hbx6⟩

theorem l_FirstGap_of {W : World} (v0 : Value) (n0 : Nat) (f0a : Nat → Int) (f0b : Nat → Int) (a1 : Int) (a2 : Int) (a3 : Int) (hs0 : Sl W v0 2 n0 (rc f0a f0b))
    (r0 : Int) (r1 : Int)
    (HQ : Hid (∀ w u0, Sl w u0 2 n0 (rc f0a f0b) → Calls Try.prog 19 #[u0, .int .i64 a1, .int .i64 a2, .int .i64 a3] w (fun en w' => en = .returned (.tuple #[.int .i64 r0, .int .i64 r1]) ∧ Below w.heap.size w w')))
    (HI : Hid (∀ w u0, Sl w u0 2 n0 (rc f0a f0b) → Calls Try.prog 20 #[u0, .int .i64 a1, .int .i64 a2, .int .i64 a3] w (fun en w' => en = .returned (.tuple #[.int .i64 r0, .int .i64 r1]) ∧ Below w.heap.size w w'))) :
    Calls Try.prog 5 #[v0, .int .i64 a1, .int .i64 a2, .int .i64 a3] W (Truly W) := by
  have HS0 := hs0
  have hn0 := hs0.1
  obtain ⟨-, ao0, cap0, rfl, hr⟩ := hs0
  clear hr
  have hn0' : (n0 : Int) ≤ 17592186044416 := by omega
  go_enter Try.func5, Try.ntmps5
  go_wp2_with fail
  refine (sz_rides _ n0 _ _ _ (by omega)).mono ?_
  rintro e z0 ⟨rz0, rfl, hzz0, hqz0, hwz0⟩
  have Kz0 : Below W.heap.size W z0 := hwz0
  obtain ⟨hzz0a, hzz0b⟩ := hzz0
  by_cases hlz0 : rz0 < 0
  · go_wp2_with fail
    go_ret
    exact ⟨rfl, Kz0⟩
  have hlz0' : 0 ≤ rz0 := by omega
  go_wp2_with fail
  refine (toRideS_sl _ n0 f0a f0b _ (HS0.kept (Kz0))).mono ?_
  rintro e x1 ⟨rfl, hbx1, hux1, -⟩
  have szx1 := hbx1.size
  go_wp2_with fail
  refine (HQ.out _ _ (hux1)).mono ?_
  rintro e x2 ⟨rfl, hbx2⟩
  have szx2 := hbx2.size
  go_wp2_with fail
  refine (toRideS_any _ n0 f0a f0b _ (HS0.kept (kept_trans (kept_trans (Kz0) hbx1) hbx2))).mono ?_
  rintro e x3 ⟨rfl, hbx3, hr0⟩
  have szx3 := hbx3.size
  have xs0 : Sl x3 (.slice (some ⟨x2.heap.size, 0, none⟩) n0 n0) 2 n0 (rc f0a f0b) := Sl.of_row hn0 (Row.of_rowIs hr0)
  have xl0 := hr0.lt
  clear hr0
  go_wp2_with fail
  refine (HI.out _ _ (xs0)).mono ?_
  rintro e x4 ⟨rfl, hbx4⟩
  have szx4 := hbx4.size
  go_wp2_with fail
  refine (toRideS_sl _ n0 f0a f0b _ (HS0.kept (kept_trans (kept_trans (kept_trans (kept_trans (Kz0) hbx1) hbx2) hbx3) hbx4))).mono ?_
  rintro e x5 ⟨rfl, hbx5, hux5, -⟩
  have szx5 := hbx5.size
  go_wp2_with fail
  refine (eqRideS_any _ _ n0 f0a f0b _ (((xs0).kept hbx4).kept hbx5) hux5).mono ?_
  rintro e x6 ⟨rfl, hbx6⟩
  have szx6 := hbx6.size
  go_wp2_with fail
  go_ret
  exact ⟨rfl, kept_trans (kept_trans (kept_trans (kept_trans (kept_trans (kept_trans (Kz0) hbx1) hbx2) hbx3) hbx4) hbx5) hbx6⟩

end Go.Proofs.Ytcbceodlakbpdaa
