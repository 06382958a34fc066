/- The walks of the laws themselves, over any answers of the two functions that they compare. -/
import Derived.Test.YtcbceodlakbpdaaRLaws
import Derived.Deep.DeepMust
import Derived.Deep.RegionHeld3
import Derived.IntWalk
namespace Go.Proofs.Ytcbceodlakbpdaa
open Go.RowKit Go.Deep

theorem toRideS_row (v : Value) (n : Nat) (lv tk : Nat → Int) (W : World) (h : Sl W v 2 n (rc lv tk)) :
    Calls Try.prog 14 #[v] W fun e W' => e = .returned (.slice (some ⟨W.heap.size, 0, none⟩) n n) ∧ Below W.heap.size W W' ∧ Row W' W.heap.size 0 (n * 2) (rc lv tk) :=
  (toRideS_any v n lv tk W h).mono fun _ _ ⟨he, hb, hr⟩ => ⟨he, hb, Row.of_rowIs hr⟩

theorem l_AddRide_of {W : World} (v0 : Value) (n0 : Nat) (f0a : Nat → Int) (f0b : Nat → Int) (c10 : Int) (c11 : Int) (a2 : Int) (hs0 : Sl W v0 2 n0 (rc f0a f0b))
    (m0 : Nat) (r0a : Nat → Int) (r0b : Nat → Int) (hm0 : m0 ≤ 17592186044416) (r1 : Int)
    (HQ : Hid (∀ w g, Row w g 0 (n0 * 2) (rc f0a f0b) → Calls Try.prog 33 #[.slice (some ⟨g, 0, none⟩) n0 n0, .agg #[.int .i64 c10, .int .i64 c11], .int .i64 a2] w (fun en w' => ∃ g0, en = .returned (.tuple #[g0, .int .i64 r1]) ∧ Below w.heap.size w w' ∧ Out w' w.heap.size 48 2 g0 m0 (rc r0a r0b))))
    (HI : Hid (∀ w g, Row w g 0 (n0 * 2) (rc f0a f0b) → Calls Try.prog 35 #[.slice (some ⟨g, 0, none⟩) n0 n0, .agg #[.int .i64 c10, .int .i64 c11], .int .i64 a2] w (fun en w' => ∃ g0, en = .returned (.tuple #[g0, .int .i64 r1]) ∧ Below w.heap.size w w' ∧ Out w' w.heap.size 48 2 g0 m0 (rc r0a r0b)))) :
    Calls Try.prog 10 #[v0, .agg #[.int .i64 c10, .int .i64 c11], .int .i64 a2] W (Truly W) := by
  have HS0 := hs0
  have hn0 := hs0.1
  obtain ⟨-, ao0, cap0, rfl, hr⟩ := hs0
  clear hr
  have hn0' : (n0 : Int) ≤ 17592186044416 := by omega
  have hm0' : (m0 : Int) ≤ 17592186044416 := by omega
  have HSA0 := HS0.kept (kept_alloc (Below.refl _ _) (.cells #[.int .i64 c10, .int .i64 c11] 45))
  have qb0 : (W.alloc (.cells #[.int .i64 c10, .int .i64 c11] 45)).cell? ⟨W.heap.size, 0, none⟩ = some (.int .i64 c10) := by rw [World.cell?, show (W.alloc (.cells #[.int .i64 c10, .int .i64 c11] 45)).heap[W.heap.size]? = some (.cells #[.int .i64 c10, .int .i64 c11] 45 (0, 0)) from heap_alloc_new W _]; rfl
  have qb1 : (W.alloc (.cells #[.int .i64 c10, .int .i64 c11] 45)).cell? ⟨W.heap.size, 1, none⟩ = some (.int .i64 c11) := by rw [World.cell?, show (W.alloc (.cells #[.int .i64 c10, .int .i64 c11] 45)).heap[W.heap.size]? = some (.cells #[.int .i64 c10, .int .i64 c11] 45 (0, 0)) from heap_alloc_new W _]; rfl
  go_enter Try.func10, Try.ntmps10
  go_wp2_with fail
  refine (sz_rides _ n0 _ _ _ (by omega)).mono ?_
  rintro e z0 ⟨rz0, rfl, hzz0, hqz0, hwz0⟩
  have Kz0 : Below (W.alloc (.cells #[.int .i64 c10, .int .i64 c11] 45)).heap.size (W.alloc (.cells #[.int .i64 c10, .int .i64 c11] 45)) z0 := hwz0
  obtain ⟨hzz0a, hzz0b⟩ := hzz0
  by_cases hlz0 : rz0 < 0
  · go_wp2_with fail
    go_ret
    exact ⟨rfl, kept_trans (kept_alloc (Below.refl _ _) _) Kz0⟩
  have hlz0' : 0 ≤ rz0 := by omega
  have qn1_0 := cell_kept (Kz0) qb0
  have qn1_1 := cell_kept (Kz0) qb1
  go_wp2_with fail
  go_region_held3 (fun w' => w'.cell? ⟨W.heap.size, 0, none⟩ = some (.int .i64 c10) ∧ w'.cell? ⟨W.heap.size, 1, none⟩ = some (.int .i64 c11)) (first | go_keep | (go_split_ands; refine ⟨?_, ?_⟩ <;> (first | exact cell_kept hbx3 (by assumption) | exact cell_kept hbx2 (by assumption) | exact cell_kept hbx1 (by assumption)))) (first | (go_at_call 14; refine (toRideS_row _ n0 f0a f0b _ (HSA0.kept (kept_drew (Kz0)))).mono ?_; rintro e x1 ⟨rfl, hbx1, hux1⟩) | (go_at_call 34; refine (l_toRide c10 c11 _).mono ?_; rintro e x2 ⟨rfl, hbx2⟩) | (go_at_call 33; refine (HQ.out _ _ ((hux1).kept hbx2)).mono ?_; rintro e x3 ⟨w0, rfl, hbx3, how0⟩))
  have hdx1 : Below z0.heap.size z0 x1 := kept_trans (kept_drew (Below.refl _ _)) hbx1
  have szx1 := hdx1.size
  have szx2 := hbx2.size
  have szx3 := hbx3.size
  go_wp2_with fail
  refine (toRideS_any _ n0 f0a f0b _ (HSA0.kept (kept_trans (kept_trans (kept_trans (Kz0) hdx1) hbx2) hbx3))).mono ?_
  rintro e x4 ⟨rfl, hbx4, hr0⟩
  have szx4 := hbx4.size
  have xs0 : Sl x4 (.slice (some ⟨x3.heap.size, 0, none⟩) n0 n0) 2 n0 (rc f0a f0b) := Sl.of_row hn0 (Row.of_rowIs hr0)
  have xm0 : Mine x4 (.slice (some ⟨x3.heap.size, 0, none⟩) n0 n0) 2 n0 := Mine.of_row hn0 hr0 (by omega)
  have xl0 := hr0.lt
  have xr0 : Row x4 x3.heap.size 0 (n0 * 2) (rc f0a f0b) := Row.of_rowIs hr0
  clear hr0
  have qo0 := cell_kept (kept_trans (kept_trans (kept_trans (kept_trans (Kz0) hdx1) hbx2) hbx3) hbx4) qb0
  have qo1 := cell_kept (kept_trans (kept_trans (kept_trans (kept_trans (Kz0) hdx1) hbx2) hbx3) hbx4) qb1
  go_wp2_with fail
  refine (l_toRide c10 c11 _).mono ?_
  rintro e x5 ⟨rfl, hbx5⟩
  have szx5 := hbx5.size
  go_wp2_with fail
  refine (HI.out _ _ ((xr0).kept hbx5)).mono ?_
  rintro e x6 ⟨g0, rfl, hbx6, hog0⟩
  have szx6 := hbx6.size
  go_wp2_with fail
  refine (eqRideS_any _ _ m0 r0a r0b _ (hog0.sl hm0) (((how0.sl hm0)).kept (kept_trans (kept_trans (hbx4) hbx5) hbx6))).mono ?_
  rintro e x7 ⟨rfl, hbx7⟩
  have szx7 := hbx7.size
  go_wp2_with fail
  refine (toRideS_sl _ n0 f0a f0b _ (HSA0.kept (kept_trans (kept_trans (kept_trans (kept_trans (kept_trans (kept_trans (kept_trans (Kz0) hdx1) hbx2) hbx3) hbx4) hbx5) hbx6) hbx7))).mono ?_
  rintro e x8 ⟨rfl, hbx8, hux8, -⟩
  have szx8 := hbx8.size
  go_wp2_with fail
  refine (eqRideS_any _ _ n0 f0a f0b _ (((((xs0).kept hbx5).kept hbx6).kept hbx7).kept hbx8) hux8).mono ?_
  rintro e x9 ⟨rfl, hbx9⟩
  have szx9 := hbx9.size
  go_wp2_with fail
  refine (markRideS_any _ n0 _ _ ((((((xm0).kept hbx5).kept hbx6).kept hbx7).kept hbx8).kept hbx9) (by omega) (by omega)).mono ?_
  rintro e x10 ⟨rfl, hgx10, -, -⟩
  have rwx10 : ∀ b, (Value.slice (some ⟨x3.heap.size, 0, none⟩) n0 n0).ownBlock = some b → x3.heap.size ≤ b := fun b hb => by simp [Value.ownBlock] at hb; omega
  have rWx10 : ∀ b, (Value.slice (some ⟨x3.heap.size, 0, none⟩) n0 n0).ownBlock = some b → (W.alloc (.cells #[.int .i64 c10, .int .i64 c11] 45)).heap.size ≤ b := fun b hb => by have := (kept_trans (kept_trans (kept_trans (Kz0) hdx1) hbx2) hbx3).size; have := rwx10 b hb; omega
  have fgx10_0 : ∀ b, g0.ownBlock = some b → some b ≠ (Value.slice (some ⟨x3.heap.size, 0, none⟩) n0 n0).ownBlock := fun b hb he => by have h1 := (hog0.base b hb).1; simp [Value.ownBlock] at he; omega
  have szx10 := hgx10.size
  go_wp2_with fail
  refine (eqRideS_any _ _ m0 r0a r0b _ (((((hog0.sl hm0).kept hbx7).kept hbx8).kept hbx9).far hgx10 fgx10_0) ((how0.sl hm0).kept (kept_grown (kept_trans (kept_trans (kept_trans (kept_trans (kept_trans (hbx4) hbx5) hbx6) hbx7) hbx8) hbx9) hgx10 rwx10))).mono ?_
  rintro e x11 ⟨rfl, hbx11⟩
  have szx11 := hbx11.size
  go_wp2_with fail
  refine (markRideS_any _ m0 _ _ ((((((hog0.mine hm0).kept hbx7).kept hbx8).kept hbx9).far hgx10 fgx10_0).kept hbx11) (by omega) (by omega)).mono ?_
  rintro e x12 ⟨rfl, hgx12, sm0, -⟩
  have szx12 := hgx12.size
  have rwx12 : ∀ b, g0.ownBlock = some b → x3.heap.size ≤ b := fun b hb => by have := (hog0.base b hb).1; omega
  have rWx12 : ∀ b, g0.ownBlock = some b → (W.alloc (.cells #[.int .i64 c10, .int .i64 c11] 45)).heap.size ≤ b := fun b hb => by have := (kept_trans (kept_trans (kept_trans (Kz0) hdx1) hbx2) hbx3).size; have := rwx12 b hb; omega
  go_wp2_with fail
  refine (heldRideS_any _ m0 _ _ (sm0) (by omega) (by omega)).mono ?_
  rintro e x13 ⟨rfl, hbx13⟩
  have szx13 := hbx13.size
  have qn14_0 := cell_kept (kept_trans (kept_grown (kept_trans (kept_grown (kept_trans (kept_trans (kept_trans (kept_trans (kept_trans (kept_trans (kept_trans (kept_trans (kept_trans (Kz0) hdx1) hbx2) hbx3) hbx4) hbx5) hbx6) hbx7) hbx8) hbx9) hgx10 rWx10) hbx11) hgx12 rWx12) hbx13) qb0
  have qn14_1 := cell_kept (kept_trans (kept_grown (kept_trans (kept_grown (kept_trans (kept_trans (kept_trans (kept_trans (kept_trans (kept_trans (kept_trans (kept_trans (kept_trans (Kz0) hdx1) hbx2) hbx3) hbx4) hbx5) hbx6) hbx7) hbx8) hbx9) hgx10 rWx10) hbx11) hgx12 rWx12) hbx13) qb1
  go_wp2_with fail
  go_region_held3 (fun w' => w'.cell? ⟨W.heap.size, 0, none⟩ = some (.int .i64 c10) ∧ w'.cell? ⟨W.heap.size, 1, none⟩ = some (.int .i64 c11)) (first | go_keep | (go_split_ands; refine ⟨?_, ?_⟩ <;> (first | exact cell_kept hbx16 (by assumption) | exact cell_kept hbx15 (by assumption) | exact cell_kept hbx14 (by assumption)))) (first | (go_at_call 14; refine (toRideS_row _ n0 f0a f0b _ (HSA0.kept (kept_drew (kept_trans (kept_grown (kept_trans (kept_grown (kept_trans (kept_trans (kept_trans (kept_trans (kept_trans (kept_trans (kept_trans (kept_trans (kept_trans (Kz0) hdx1) hbx2) hbx3) hbx4) hbx5) hbx6) hbx7) hbx8) hbx9) hgx10 rWx10) hbx11) hgx12 rWx12) hbx13)))).mono ?_; rintro e x14 ⟨rfl, hbx14, hux14⟩) | (go_at_call 34; refine (l_toRide c10 c11 _).mono ?_; rintro e x15 ⟨rfl, hbx15⟩) | (go_at_call 35; refine (HI.out _ _ ((hux14).kept hbx15)).mono ?_; rintro e x16 ⟨h0, rfl, hbx16, hoh0⟩))
  have hdx14 : Below x13.heap.size x13 x14 := kept_trans (kept_drew (Below.refl _ _)) hbx14
  have szx14 := hdx14.size
  have szx15 := hbx15.size
  have szx16 := hbx16.size
  go_wp2_with fail
  refine (eqRideS_any _ _ m0 r0a r0b _ (hoh0.sl hm0) ((how0.sl hm0).kept (kept_trans (kept_trans (kept_trans (kept_trans (kept_grown (kept_trans (kept_grown (kept_trans (kept_trans (kept_trans (kept_trans (kept_trans (hbx4) hbx5) hbx6) hbx7) hbx8) hbx9) hgx10 rwx10) hbx11) hgx12 rwx12) hbx13) hdx14) hbx15) hbx16))).mono ?_
  rintro e x17 ⟨rfl, hbx17⟩
  have szx17 := hbx17.size
  go_wp2_with fail
  refine (heldRideS_any _ m0 _ _ ((((((sm0).kept hbx13).kept hdx14).kept hbx15).kept hbx16).kept hbx17) (by omega) (by omega)).mono ?_
  rintro e x18 ⟨rfl, hbx18⟩
  have szx18 := hbx18.size
  go_wp2_with fail
  go_ret
  exact ⟨rfl, kept_trans (kept_alloc (Below.refl _ _) _) (kept_trans (kept_trans (kept_trans (kept_trans (kept_trans (kept_trans (kept_grown (kept_trans (kept_grown (kept_trans (kept_trans (kept_trans (kept_trans (kept_trans (kept_trans (kept_trans (kept_trans (kept_trans (Kz0) hdx1) hbx2) hbx3) hbx4) hbx5) hbx6) hbx7) hbx8) hbx9) hgx10 rWx10) hbx11) hgx12 rWx12) hbx13) hdx14) hbx15) hbx16) hbx17) hbx18)⟩

end Go.Proofs.Ytcbceodlakbpdaa
