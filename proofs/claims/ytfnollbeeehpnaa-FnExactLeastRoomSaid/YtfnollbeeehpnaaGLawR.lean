/- The walks of the laws themselves, over any answers of the two functions that they compare. -/
import Derived.Test.YtfnollbeeehpnaaGroups
import Derived.Test.YtfnollbeeehpnaaFares
import Derived.Test.YtfnollbeeehpnaaInts
import Derived.Deep.DeepMust
import Derived.Deep.RegionHeld3
import Derived.IntWalk
namespace Go.Proofs.Ytfnollbeeehpnaa
open Go.RowKit Go.Deep
set_option maxRecDepth 100000

theorem l_LeastRoom_of {W : World} (v0 : Value) (n0 : Nat) (f0a : Nat → ByteArray) (f0b : Nat → Int) (f0c : Nat → Int) (f0d : Nat → Int) (hs0 : Sl W v0 4 n0 (gc f0a f0b f0c f0d)) (hx0 : Hid (∀ i, i < n0 → ((f0a i).size : Int) ≤ 9223372036854775807))
    (r00 : Int) (r01 : Int) (r02 : Int) (r1 : Int)
    (HQ : Hid (∀ w u0, Sl w u0 4 n0 (gc f0a f0b f0c f0d) → Hid (∀ i, i < n0 → ((f0a i).size : Int) ≤ 1048576) → Calls Try.prog 20 #[u0] w (fun en w' => en = .returned (.tuple #[.agg #[.int .i64 r00, .int .i64 r01, .int .i64 r02], .int .i64 r1]) ∧ Below w.heap.size w w')))
    (HI : Hid (∀ w u0, Sl w u0 4 n0 (gc f0a f0b f0c f0d) → Hid (∀ i, i < n0 → ((f0a i).size : Int) ≤ 1048576) → Calls Try.prog 21 #[u0] w (fun en w' => en = .returned (.tuple #[.agg #[.int .i64 r00, .int .i64 r01, .int .i64 r02], .int .i64 r1]) ∧ Below w.heap.size w w'))) :
    Calls Try.prog 4 #[v0] W (Truly W) := by
  have HS0 := hs0
  have hn0 := hs0.1
  obtain ⟨-, ao0, cap0, rfl, hr⟩ := hs0
  clear hr
  have hn0' : (n0 : Int) ≤ 17592186044416 := by omega
  go_enter Try.func4, Try.ntmps4
  go_wp2_with fail
  refine (sz_GroupS _ n0 f0a f0b f0c f0d _ _ HS0 (by omega) hx0).mono ?_
  rintro e z0 ⟨rz0, rfl, hzz0, hqz0, hwz0⟩
  have Kz0 : Below W.heap.size W z0 := hwz0
  obtain ⟨hzz0a, hzz0b⟩ := hzz0
  by_cases hlz0 : rz0 < 0
  · go_wp2_with fail
    go_ret
    exact ⟨rfl, Kz0⟩
  have hlz0' : 0 ≤ rz0 := by omega
  have ln0 : (n0 : Int) ≤ 1048576 := by have := (hqz0.out hlz0').1; omega
  have lb0 : Hid (∀ i, i < n0 → ((f0a i).size : Int) ≤ 1048576) := (hqz0.out hlz0').2
  go_wp2_with fail
  refine (toGroupS_sl _ n0 f0a f0b f0c f0d _ (HS0.kept (Kz0)) ln0).mono ?_
  rintro e x1 ⟨rfl, hbx1, hux1, -⟩
  have szx1 := hbx1.size
  go_wp2_with fail
  refine (HQ.out _ _ (hux1) lb0).mono ?_
  rintro e x2 ⟨rfl, hbx2⟩
  have szx2 := hbx2.size
  have szbw0 : x2.heap.size ≤ (x2.alloc (.cells #[.int .i64 r00, .int .i64 r01, .int .i64 r02] 30)).heap.size := by simp
  go_wp2_with fail
  refine (toGroupS_any _ n0 f0a f0b f0c f0d _ (HS0.kept (kept_trans (kept_trans (kept_trans (Kz0) hbx1) hbx2) (kept_alloc (Below.refl _ _) (.cells #[.int .i64 r00, .int .i64 r01, .int .i64 r02] 30)))) ln0).mono ?_
  rintro e x4 ⟨rfl, hbx4, hr0⟩
  have szx4 := hbx4.size
  rw [show (x2.alloc (.cells #[.int .i64 r00, .int .i64 r01, .int .i64 r02] 30)).heap.size = x2.heap.size + 1 by simp] at hr0
  have xs0 : Sl x4 (.slice (some ⟨x2.heap.size + 1, 0, none⟩) n0 n0) 4 n0 (gc f0a f0b f0c f0d) := Sl.of_row hn0 (Row.of_rowIs hr0)
  have xl0 := hr0.lt
  clear hr0
  go_wp2_with fail
  refine (HI.out _ _ (xs0) lb0).mono ?_
  rintro e x5 ⟨rfl, hbx5⟩
  have szx5 := hbx5.size
  have szbg0 : x5.heap.size ≤ (x5.alloc (.cells #[.int .i64 r00, .int .i64 r01, .int .i64 r02] 30)).heap.size := by simp
  have kq0 := (boxed_at (w := x5) (cs := #[.int .i64 r00, .int .i64 r01, .int .i64 r02]) (t := 30) (i := 0) rfl rfl)
  have kq1 := (boxed_at (w := x5) (cs := #[.int .i64 r00, .int .i64 r01, .int .i64 r02]) (t := 30) (i := 1) rfl rfl)
  have kq2 := (boxed_at (w := x5) (cs := #[.int .i64 r00, .int .i64 r01, .int .i64 r02]) (t := 30) (i := 2) rfl rfl)
  have kq3 := (cell_keep (kept_trans (kept_trans (hbx4) hbx5) (kept_alloc (Below.refl _ _) (.cells #[.int .i64 r00, .int .i64 r01, .int .i64 r02] 30))) (boxed_at (w := x2) (cs := #[.int .i64 r00, .int .i64 r01, .int .i64 r02]) (t := 30) (i := 0) rfl rfl))
  have kq4 := (cell_keep (kept_trans (kept_trans (hbx4) hbx5) (kept_alloc (Below.refl _ _) (.cells #[.int .i64 r00, .int .i64 r01, .int .i64 r02] 30))) (boxed_at (w := x2) (cs := #[.int .i64 r00, .int .i64 r01, .int .i64 r02]) (t := 30) (i := 1) rfl rfl))
  have kq5 := (cell_keep (kept_trans (kept_trans (hbx4) hbx5) (kept_alloc (Below.refl _ _) (.cells #[.int .i64 r00, .int .i64 r01, .int .i64 r02] 30))) (boxed_at (w := x2) (cs := #[.int .i64 r00, .int .i64 r01, .int .i64 r02]) (t := 30) (i := 2) rfl rfl))
  go_wp2_with fail
  refine (l_eqRoom r00 r01 r02 _).mono ?_
  rintro e x7 ⟨rfl, hbx7⟩
  have szx7 := hbx7.size
  go_wp2_with fail
  refine (toGroupS_sl _ n0 f0a f0b f0c f0d _ (HS0.kept (kept_trans (kept_trans (kept_trans (kept_trans (kept_trans (kept_trans (kept_trans (Kz0) hbx1) hbx2) (kept_alloc (Below.refl _ _) (.cells #[.int .i64 r00, .int .i64 r01, .int .i64 r02] 30))) hbx4) hbx5) (kept_alloc (Below.refl _ _) (.cells #[.int .i64 r00, .int .i64 r01, .int .i64 r02] 30))) hbx7)) ln0).mono ?_
  rintro e x8 ⟨rfl, hbx8, hux8, -⟩
  have szx8 := hbx8.size
  go_wp2_with fail
  refine (eqGroupS_any _ _ n0 f0a f0b f0c f0d _ (((((xs0).kept hbx5).kept (kept_alloc (Below.refl _ _) (.cells #[.int .i64 r00, .int .i64 r01, .int .i64 r02] 30))).kept hbx7).kept hbx8) hux8).mono ?_
  rintro e x9 ⟨rfl, hbx9⟩
  have szx9 := hbx9.size
  go_wp2_with fail
  go_ret
  exact ⟨rfl, kept_trans (kept_trans (kept_trans (kept_trans (kept_trans (kept_trans (kept_trans (kept_trans (kept_trans (Kz0) hbx1) hbx2) (kept_alloc (Below.refl _ _) (.cells #[.int .i64 r00, .int .i64 r01, .int .i64 r02] 30))) hbx4) hbx5) (kept_alloc (Below.refl _ _) (.cells #[.int .i64 r00, .int .i64 r01, .int .i64 r02] 30))) hbx7) hbx8) hbx9⟩

end Go.Proofs.Ytfnollbeeehpnaa
