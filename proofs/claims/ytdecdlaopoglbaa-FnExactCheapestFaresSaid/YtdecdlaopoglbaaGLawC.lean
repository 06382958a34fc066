/- The walks of the laws themselves, over any answers of the two functions that they compare. -/
import Derived.Test.YtdecdlaopoglbaaFares
import Derived.Test.YtdecdlaopoglbaaInts
import Derived.Test.YtdecdlaopoglbaaMark
import Derived.Test.YtdecdlaopoglbaaMarkF
import Derived.Deep.DeepMust
import Derived.Deep.RegionHeld3
import Derived.IntWalk
namespace Go.Proofs.Ytdecdlaopoglbaa
open Go.RowKit Go.Deep
set_option maxRecDepth 100000

theorem toInt64S_row (v : Value) (n : Nat) (z : Nat → Int) (W : World) (h : Sl W v 1 n (ic z)) :
    Calls Try.prog 15 #[v] W fun e W' => e = .returned (.slice (some ⟨W.heap.size, 0, none⟩) n n) ∧ Below W.heap.size W W' ∧ Row W' W.heap.size 0 n (ic z) :=
  (toInt64S_any v n z W h).mono fun _ _ ⟨he, hb, hr⟩ => ⟨he, hb, Row.of_rowIs hr⟩

theorem l_CheapestFares_of {W : World} (v0 : Value) (n0 : Nat) (f0a : Nat → ByteArray) (f0b : Nat → Int) (f0c : Nat → Int) (f0d : Nat → Int) (v1 : Value) (n1 : Nat) (f1a : Nat → Int) (hs0 : Sl W v0 4 n0 (gc f0a f0b f0c f0d)) (hx0 : Hid (∀ i, i < n0 → ((f0a i).size : Int) ≤ 9223372036854775807)) (hs1 : Sl W v1 1 n1 (ic f1a))
    (r0 : Int) (m1 : Nat) (r1a : Nat → ByteArray) (hm1 : m1 ≤ 17592186044416) (r2 : Int)
    (HQ : Hid (∀ w u0 u1, Sl w u0 4 n0 (gc f0a f0b f0c f0d) → Row w u1 0 n1 (ic f1a) → Hid (∀ i, i < n0 → ((f0a i).size : Int) ≤ 1048576) → Calls Try.prog 14 #[u0, .slice (some ⟨u1, 0, none⟩) n1 n1] w (fun en w' => ∃ g1, en = .returned (.tuple #[.int .i64 r0, g1, .int .i64 r2]) ∧ Below w.heap.size w w' ∧ Out w' w.heap.size 9 1 g1 m1 (sc r1a))))
    (HI : Hid (∀ w u0 u1, Sl w u0 4 n0 (gc f0a f0b f0c f0d) → Row w u1 0 n1 (ic f1a) → Hid (∀ i, i < n0 → ((f0a i).size : Int) ≤ 1048576) → Calls Try.prog 16 #[u0, .slice (some ⟨u1, 0, none⟩) n1 n1] w (fun en w' => ∃ g1, en = .returned (.tuple #[.int .i64 r0, g1, .int .i64 r2]) ∧ Below w.heap.size w w' ∧ Out w' w.heap.size 9 1 g1 m1 (sc r1a)))) :
    Calls Try.prog 4 #[v0, v1] W (Truly W) := by
  have HS0 := hs0
  have hn0 := hs0.1
  obtain ⟨-, ao0, cap0, rfl, hr⟩ := hs0
  clear hr
  have hn0' : (n0 : Int) ≤ 17592186044416 := by omega
  have HS1 := hs1
  have hn1 := hs1.1
  obtain ⟨-, ao1, cap1, rfl, hr⟩ := hs1
  clear hr
  have hn1' : (n1 : Int) ≤ 17592186044416 := by omega
  have hm1' : (m1 : Int) ≤ 17592186044416 := by omega
  by_cases hl1 : (1048576 : Int) < (n1 : Nat)
  · go_enter Try.func4, Try.ntmps4
    go_wp2_with fail
    go_ret
    exact ⟨rfl, (by repeat (first | assumption | exact Below.refl _ _ | refine kept_drew ?_ | refine kept_drewN ?_ _ | refine kept_alloc ?_ _ | refine kept_set ?_ ?_ _ | (simp; done) | (simp; omega) | refine kept_trans ?_ (by assumption)))⟩
  have hl1' : ((n1 : Nat) : Int) ≤ 1048576 := by omega
  go_enter Try.func4, Try.ntmps4
  go_wp2_with fail
  refine (sz_FareS _ n0 f0a f0b f0c f0d _ _ HS0 (by omega) hx0).mono ?_
  rintro e z0 ⟨rz0, rfl, hzz0, hqz0, hwz0⟩
  have Kz0 : Below W.heap.size W z0 := hwz0
  obtain ⟨hzz0a, hzz0b⟩ := hzz0
  by_cases hlz0 : rz0 < 0
  · go_wp2_with fail
    go_ret
    exact ⟨rfl, Kz0⟩
  have hlz0' : 0 ≤ rz0 := by omega
  have ln0 : (n0 : Int) ≤ 1048576 := by have := (hqz0.out hlz0').1; omega
  have lb0 : Hid (∀ i, i < n0 → ((f0a i).size : Int) ≤ 1048576) := (hqz0.out hlz0').2
  go_wp2_with fail
  refine (toFareS_sl _ n0 f0a f0b f0c f0d _ (HS0.kept (Kz0)) ln0).mono ?_
  rintro e x1 ⟨rfl, hbx1, hux1, -⟩
  have szx1 := hbx1.size
  go_wp2_with fail
  refine (toInt64S_row _ n1 f1a _ (HS1.kept (kept_trans (Kz0) hbx1))).mono ?_
  rintro e x2 ⟨rfl, hbx2, hux2⟩
  have szx2 := hbx2.size
  go_wp2_with fail
  refine (HQ.out _ _ _ ((hux1).kept hbx2) (hux2) lb0).mono ?_
  rintro e x3 ⟨w1, rfl, hbx3, how1⟩
  have szx3 := hbx3.size
  go_wp2_with fail
  refine (toFareS_any _ n0 f0a f0b f0c f0d _ (HS0.kept (kept_trans (kept_trans (kept_trans (Kz0) hbx1) hbx2) hbx3)) ln0).mono ?_
  rintro e x4 ⟨rfl, hbx4, hr0⟩
  have szx4 := hbx4.size
  have xs0 : Sl x4 (.slice (some ⟨x3.heap.size, 0, none⟩) n0 n0) 4 n0 (gc f0a f0b f0c f0d) := Sl.of_row hn0 (Row.of_rowIs hr0)
  have xm0 : Mine x4 (.slice (some ⟨x3.heap.size, 0, none⟩) n0 n0) 4 n0 := Mine.of_row hn0 hr0 (by omega)
  have xl0 := hr0.lt
  clear hr0
  go_wp2_with fail
  refine (toInt64S_any _ n1 f1a _ (HS1.kept (kept_trans (kept_trans (kept_trans (kept_trans (Kz0) hbx1) hbx2) hbx3) hbx4))).mono ?_
  rintro e x5 ⟨rfl, hbx5, hr1⟩
  have szx5 := hbx5.size
  have xs1 : Sl x5 (.slice (some ⟨x4.heap.size, 0, none⟩) n1 n1) 1 n1 (ic f1a) := Sl.of_row hn1 (by rw [Nat.mul_one]; exact Row.of_rowIs hr1)
  have xm1 : Mine x5 (.slice (some ⟨x4.heap.size, 0, none⟩) n1 n1) 1 n1 := Mine.of_row hn1 hr1 (by omega)
  have xl1 := hr1.lt
  have xr1 : Row x5 x4.heap.size 0 n1 (ic f1a) := Row.of_rowIs hr1
  clear hr1
  go_wp2_with fail
  refine (HI.out _ _ _ ((xs0).kept hbx5) (xr1) lb0).mono ?_
  rintro e x6 ⟨g1, rfl, hbx6, hog1⟩
  have szx6 := hbx6.size
  go_wp2_with fail
  refine (eqStringS_any _ _ m1 r1a _ (hog1.sl hm1) (((how1.sl hm1)).kept (kept_trans (kept_trans (hbx4) hbx5) hbx6))).mono ?_
  rintro e x7 ⟨rfl, hbx7⟩
  have szx7 := hbx7.size
  go_wp2_with fail
  refine (toFareS_sl _ n0 f0a f0b f0c f0d _ (HS0.kept (kept_trans (kept_trans (kept_trans (kept_trans (kept_trans (kept_trans (kept_trans (Kz0) hbx1) hbx2) hbx3) hbx4) hbx5) hbx6) hbx7)) ln0).mono ?_
  rintro e x8 ⟨rfl, hbx8, hux8, -⟩
  have szx8 := hbx8.size
  go_wp2_with fail
  refine (eqFareS_any _ _ n0 f0a f0b f0c f0d _ (((((xs0).kept hbx5).kept hbx6).kept hbx7).kept hbx8) hux8).mono ?_
  rintro e x9 ⟨rfl, hbx9⟩
  have szx9 := hbx9.size
  go_wp2_with fail
  refine (toInt64S_sl _ n1 f1a _ (HS1.kept (kept_trans (kept_trans (kept_trans (kept_trans (kept_trans (kept_trans (kept_trans (kept_trans (kept_trans (Kz0) hbx1) hbx2) hbx3) hbx4) hbx5) hbx6) hbx7) hbx8) hbx9))).mono ?_
  rintro e x10 ⟨rfl, hbx10, hux10⟩
  have szx10 := hbx10.size
  go_wp2_with fail
  refine (eqInt64S_any _ _ n1 f1a _ ((((((xs1).kept hbx6).kept hbx7).kept hbx8).kept hbx9).kept hbx10) hux10).mono ?_
  rintro e x11 ⟨rfl, hbx11⟩
  have szx11 := hbx11.size
  go_wp2_with fail
  refine (markFareS_any _ n0 _ _ ((((((((xm0).kept hbx5).kept hbx6).kept hbx7).kept hbx8).kept hbx9).kept hbx10).kept hbx11) (by omega) (by omega)).mono ?_
  rintro e x12 ⟨rfl, hgx12, -, -⟩
  have rwx12 : ∀ b, (Value.slice (some ⟨x3.heap.size, 0, none⟩) n0 n0).ownBlock = some b → x3.heap.size ≤ b := fun b hb => by simp [Value.ownBlock] at hb; omega
  have rWx12 : ∀ b, (Value.slice (some ⟨x3.heap.size, 0, none⟩) n0 n0).ownBlock = some b → W.heap.size ≤ b := fun b hb => by have := (kept_trans (kept_trans (kept_trans (Kz0) hbx1) hbx2) hbx3).size; have := rwx12 b hb; omega
  have fgx12_1 : ∀ b, g1.ownBlock = some b → some b ≠ (Value.slice (some ⟨x3.heap.size, 0, none⟩) n0 n0).ownBlock := fun b hb he => by have h1 := (hog1.base b hb).1; simp [Value.ownBlock] at he; omega
  have fxx12_1 : ∀ b, (Value.slice (some ⟨x4.heap.size, 0, none⟩) n1 n1).ownBlock = some b → some b ≠ (Value.slice (some ⟨x3.heap.size, 0, none⟩) n0 n0).ownBlock := fun b hb he => by simp [Value.ownBlock] at hb he; omega
  have szx12 := hgx12.size
  go_wp2_with fail
  refine (markInt64S_any _ n1 _ _ ((((((((xm1).kept hbx6).kept hbx7).kept hbx8).kept hbx9).kept hbx10).kept hbx11).far hgx12 fxx12_1) (by omega) (by omega)).mono ?_
  rintro e x13 ⟨rfl, hgx13, -, -⟩
  have rwx13 : ∀ b, (Value.slice (some ⟨x4.heap.size, 0, none⟩) n1 n1).ownBlock = some b → x3.heap.size ≤ b := fun b hb => by simp [Value.ownBlock] at hb; omega
  have rWx13 : ∀ b, (Value.slice (some ⟨x4.heap.size, 0, none⟩) n1 n1).ownBlock = some b → W.heap.size ≤ b := fun b hb => by have := (kept_trans (kept_trans (kept_trans (Kz0) hbx1) hbx2) hbx3).size; have := rwx13 b hb; omega
  have fgx13_1 : ∀ b, g1.ownBlock = some b → some b ≠ (Value.slice (some ⟨x4.heap.size, 0, none⟩) n1 n1).ownBlock := fun b hb he => by have h1 := (hog1.base b hb).1; simp [Value.ownBlock] at he; omega
  have fxx13_0 : ∀ b, (Value.slice (some ⟨x3.heap.size, 0, none⟩) n0 n0).ownBlock = some b → some b ≠ (Value.slice (some ⟨x4.heap.size, 0, none⟩) n1 n1).ownBlock := fun b hb he => by simp [Value.ownBlock] at hb he; omega
  have szx13 := hgx13.size
  go_wp2_with fail
  refine (eqStringS_any _ _ m1 r1a _ ((((((((hog1.sl hm1).kept hbx7).kept hbx8).kept hbx9).kept hbx10).kept hbx11).far hgx12 fgx12_1).far hgx13 fgx13_1) ((how1.sl hm1).kept (kept_grown (kept_grown (kept_trans (kept_trans (kept_trans (kept_trans (kept_trans (kept_trans (kept_trans (hbx4) hbx5) hbx6) hbx7) hbx8) hbx9) hbx10) hbx11) hgx12 rwx12) hgx13 rwx13))).mono ?_
  rintro e x14 ⟨rfl, hbx14⟩
  have szx14 := hbx14.size
  go_wp2_with fail
  refine (markStringS_any _ m1 _ _ (((((((((hog1.mine hm1).kept hbx7).kept hbx8).kept hbx9).kept hbx10).kept hbx11).far hgx12 fgx12_1).far hgx13 fgx13_1).kept hbx14) (by omega) (by omega)).mono ?_
  rintro e x15 ⟨rfl, hgx15, sm1, -⟩
  have szx15 := hgx15.size
  have rwx15 : ∀ b, g1.ownBlock = some b → x3.heap.size ≤ b := fun b hb => by have := (hog1.base b hb).1; omega
  have rWx15 : ∀ b, g1.ownBlock = some b → W.heap.size ≤ b := fun b hb => by have := (kept_trans (kept_trans (kept_trans (Kz0) hbx1) hbx2) hbx3).size; have := rwx15 b hb; omega
  go_wp2_with fail
  refine (heldStringS_any _ m1 _ _ (sm1) (by omega) (by omega)).mono ?_
  rintro e x16 ⟨rfl, hbx16⟩
  have szx16 := hbx16.size
  go_wp2_with fail
  refine (toFareS_sl _ n0 f0a f0b f0c f0d _ (HS0.kept (kept_trans (kept_grown (kept_trans (kept_grown (kept_grown (kept_trans (kept_trans (kept_trans (kept_trans (kept_trans (kept_trans (kept_trans (kept_trans (kept_trans (kept_trans (kept_trans (Kz0) hbx1) hbx2) hbx3) hbx4) hbx5) hbx6) hbx7) hbx8) hbx9) hbx10) hbx11) hgx12 rWx12) hgx13 rWx13) hbx14) hgx15 rWx15) hbx16)) ln0).mono ?_
  rintro e x17 ⟨rfl, hbx17, hux17, -⟩
  have szx17 := hbx17.size
  go_wp2_with fail
  refine (toInt64S_row _ n1 f1a _ (HS1.kept (kept_trans (kept_trans (kept_grown (kept_trans (kept_grown (kept_grown (kept_trans (kept_trans (kept_trans (kept_trans (kept_trans (kept_trans (kept_trans (kept_trans (kept_trans (kept_trans (kept_trans (Kz0) hbx1) hbx2) hbx3) hbx4) hbx5) hbx6) hbx7) hbx8) hbx9) hbx10) hbx11) hgx12 rWx12) hgx13 rWx13) hbx14) hgx15 rWx15) hbx16) hbx17))).mono ?_
  rintro e x18 ⟨rfl, hbx18, hux18⟩
  have szx18 := hbx18.size
  go_wp2_with fail
  refine (HI.out _ _ _ ((hux17).kept hbx18) (hux18) lb0).mono ?_
  rintro e x19 ⟨h1, rfl, hbx19, hoh1⟩
  have szx19 := hbx19.size
  go_wp2_with fail
  refine (eqStringS_any _ _ m1 r1a _ (hoh1.sl hm1) ((how1.sl hm1).kept (kept_trans (kept_trans (kept_trans (kept_trans (kept_grown (kept_trans (kept_grown (kept_grown (kept_trans (kept_trans (kept_trans (kept_trans (kept_trans (kept_trans (kept_trans (hbx4) hbx5) hbx6) hbx7) hbx8) hbx9) hbx10) hbx11) hgx12 rwx12) hgx13 rwx13) hbx14) hgx15 rwx15) hbx16) hbx17) hbx18) hbx19))).mono ?_
  rintro e x20 ⟨rfl, hbx20⟩
  have szx20 := hbx20.size
  go_wp2_with fail
  refine (heldStringS_any _ m1 _ _ ((((((sm1).kept hbx16).kept hbx17).kept hbx18).kept hbx19).kept hbx20) (by omega) (by omega)).mono ?_
  rintro e x21 ⟨rfl, hbx21⟩
  have szx21 := hbx21.size
  go_wp2_with fail
  go_ret
  exact ⟨rfl, kept_trans (kept_trans (kept_trans (kept_trans (kept_trans (kept_trans (kept_grown (kept_trans (kept_grown (kept_grown (kept_trans (kept_trans (kept_trans (kept_trans (kept_trans (kept_trans (kept_trans (kept_trans (kept_trans (kept_trans (kept_trans (Kz0) hbx1) hbx2) hbx3) hbx4) hbx5) hbx6) hbx7) hbx8) hbx9) hbx10) hbx11) hgx12 rWx12) hgx13 rWx13) hbx14) hgx15 rWx15) hbx16) hbx17) hbx18) hbx19) hbx20) hbx21⟩

end Go.Proofs.Ytdecdlaopoglbaa
