/- The walks of the laws themselves, over any answers of the two functions that they compare. -/
import Derived.Test.YtfnollbeeehpnaaGroups
import Derived.Test.YtfnollbeeehpnaaFares
import Derived.Test.YtfnollbeeehpnaaInts
import Derived.Deep.DeepMust
import Derived.Deep.RegionHeld3
import Derived.IntWalk
import Derived.Deep.DeepCutAuto
namespace Go.Proofs.Ytfnollbeeehpnaa
open Go.RowKit Go.Deep
set_option maxRecDepth 100000

theorem cell_kept {w w1 : World} {b o : Nat} {v : Value} (hc : w.cell? ⟨b, o, none⟩ = some v) (hb : Below w.heap.size w w1) : w1.cell? ⟨b, o, none⟩ = some v := cell_keep hb hc

theorem set3_at {w : World} {g : Nat} {u0 u1 u2 v0 v1 v2 : Value} (c0 : w.cell? ⟨g, 0, none⟩ = some u0) (c1 : w.cell? ⟨g, 1, none⟩ = some u1) (c2 : w.cell? ⟨g, 2, none⟩ = some u2) :
    (((w.setCell ⟨g, 0, none⟩ v0).setCell ⟨g, 1, none⟩ v1).setCell ⟨g, 2, none⟩ v2).cell? ⟨g, 0, none⟩ = some v0 ∧ (((w.setCell ⟨g, 0, none⟩ v0).setCell ⟨g, 1, none⟩ v1).setCell ⟨g, 2, none⟩ v2).cell? ⟨g, 1, none⟩ = some v1 ∧
    (((w.setCell ⟨g, 0, none⟩ v0).setCell ⟨g, 1, none⟩ v1).setCell ⟨g, 2, none⟩ v2).cell? ⟨g, 2, none⟩ = some v2 := by
  have n1 : (⟨g, 1, none⟩ : Addr) ≠ ⟨g, 0, none⟩ := by simp
  have n2 : (⟨g, 2, none⟩ : Addr) ≠ ⟨g, 0, none⟩ := by simp
  have n3 : (⟨g, 2, none⟩ : Addr) ≠ ⟨g, 1, none⟩ := by simp
  refine ⟨?_, ?_, ?_⟩
  · rw [World.cell?_setCell_other _ _ _ _ n2, World.cell?_setCell_other _ _ _ _ n1]; exact World.cell?_setCell_same _ _ _ c0
  · rw [World.cell?_setCell_other _ _ _ _ n3]; exact World.cell?_setCell_same _ _ _ ((World.cell?_setCell_other _ _ _ _ n1.symm).trans c1)
  · exact World.cell?_setCell_same _ _ _ ((World.cell?_setCell_other _ _ _ _ n3.symm).trans ((World.cell?_setCell_other _ _ _ _ n2.symm).trans c2))

theorem toFareS_at (k : Nat) (v : Value) (n : Nat) (a : Nat → ByteArray) (b c d : Nat → Int) (W : World) (hk : W.heap.size = k) (h : Sl W v 4 n (gc a b c d)) (ln : (n : Int) ≤ 1048576) :
    Calls Try.prog 40 #[v] W fun e W' => e = .returned (.slice (some ⟨k, 0, none⟩) n n) ∧ Below W.heap.size W W' ∧ Sl W' (.slice (some ⟨k, 0, none⟩) n n) 4 n (gc a b c d) := by
  subst hk
  exact (toFareS_sl v n a b c d W h ln).mono fun _ _ h => ⟨h.1, h.2.1, h.2.2.1⟩

set_option maxHeartbeats 3200000 in
theorem l_UseTicket_of {W : World} (v0 : Value) (n0 : Nat) (f0a : Nat → ByteArray) (f0b : Nat → Int) (f0c : Nat → Int) (f0d : Nat → Int) (c10 : ByteArray) (c11 : Int) (c12 : Int) (a2 : Int) (hs0 : Sl W v0 4 n0 (gc f0a f0b f0c f0d)) (hx0 : Hid (∀ i, i < n0 → ((f0a i).size : Int) ≤ 9223372036854775807)) (hc1 : (c10.size : Int) ≤ 9223372036854775807)
    (r00 : ByteArray) (r01 : Int) (r02 : Int) (r1 : Int)
    (HQ : Hid (∀ w u0, Sl w u0 4 n0 (gc f0a f0b f0c f0d) → Hid (∀ i, i < n0 → ((f0a i).size : Int) ≤ 1048576) → ((c10.size : Nat) : Int) ≤ 1048576 → Calls Try.prog 55 #[u0, .agg #[.string c10, .int .i64 c11, .int .i64 c12], .int .i64 a2] w (fun en w' => en = .returned (.tuple #[.agg #[.string r00, .int .i64 r01, .int .i64 r02], .int .i64 r1]) ∧ Below w.heap.size w w')))
    (HI : Hid (∀ w u0, Sl w u0 4 n0 (gc f0a f0b f0c f0d) → Hid (∀ i, i < n0 → ((f0a i).size : Int) ≤ 1048576) → ((c10.size : Nat) : Int) ≤ 1048576 → Calls Try.prog 56 #[u0, .agg #[.string c10, .int .i64 c11, .int .i64 c12], .int .i64 a2] w (fun en w' => en = .returned (.tuple #[.agg #[.string r00, .int .i64 r01, .int .i64 r02], .int .i64 r1]) ∧ Below w.heap.size w w'))) :
    Calls Try.prog 14 #[v0, .agg #[.string c10, .int .i64 c11, .int .i64 c12], .int .i64 a2] W (Truly W) := by
  have HS0 := hs0
  have hn0 := hs0.1
  obtain ⟨-, ao0, cap0, rfl, hr⟩ := hs0
  clear hr
  have hn0' : (n0 : Int) ≤ 17592186044416 := by omega
  have HSA0 := HS0.kept (kept_alloc (Below.refl _ _) (.cells #[.string c10, .int .i64 c11, .int .i64 c12] 66))
  have qb1_0 : (W.alloc (.cells #[.string c10, .int .i64 c11, .int .i64 c12] 66)).cell? ⟨W.heap.size, 0, none⟩ = some (.string c10) := boxed_at rfl rfl
  have qb1_1 : (W.alloc (.cells #[.string c10, .int .i64 c11, .int .i64 c12] 66)).cell? ⟨W.heap.size, 1, none⟩ = some (.int .i64 c11) := boxed_at rfl rfl
  have qb1_2 : (W.alloc (.cells #[.string c10, .int .i64 c11, .int .i64 c12] 66)).cell? ⟨W.heap.size, 2, none⟩ = some (.int .i64 c12) := boxed_at rfl rfl
  have KB0 : Below W.heap.size W (W.alloc (.cells #[.string c10, .int .i64 c11, .int .i64 c12] 66)) := kept_alloc (Below.refl _ _) (.cells #[.string c10, .int .i64 c11, .int .i64 c12] 66)
  go_enter Try.func14, Try.ntmps14
  go_wp2_with fail
  refine (sz_FareS _ n0 f0a f0b f0c f0d _ _ HSA0 (by omega) hx0).mono ?_
  rintro e z0 ⟨rz0, rfl, hzz0, hqz0, hwz0⟩
  have Kz0 : Below (W.alloc (.cells #[.string c10, .int .i64 c11, .int .i64 c12] 66)).heap.size (W.alloc (.cells #[.string c10, .int .i64 c11, .int .i64 c12] 66)) z0 := hwz0
  obtain ⟨hzz0a, hzz0b⟩ := hzz0
  by_cases hlz0 : rz0 < 0
  · go_wp2_with fail
    go_ret
    exact ⟨rfl, kept_trans KB0 Kz0⟩
  have hlz0' : 0 ≤ rz0 := by omega
  have ln0 : (n0 : Int) ≤ 1048576 := by have := (hqz0.out hlz0').1; omega
  have lb0 : Hid (∀ i, i < n0 → ((f0a i).size : Int) ≤ 1048576) := (hqz0.out hlz0').2
  have qs1_0 := cell_keep Kz0 qb1_0
  have qs1_1 := cell_keep Kz0 qb1_1
  have qs1_2 := cell_keep Kz0 qb1_2
  go_wp2_with fail
  refine (sz_Ticket c10 c11 c12 _ _ (by omega) hc1).mono ?_
  rintro e z1 ⟨rz1, rfl, hzz1, hqz1, hwz1⟩
  have Kz1 : Below (W.alloc (.cells #[.string c10, .int .i64 c11, .int .i64 c12] 66)).heap.size (W.alloc (.cells #[.string c10, .int .i64 c11, .int .i64 c12] 66)) z1 := kept_trans Kz0 hwz1
  obtain ⟨hzz1a, hzz1b⟩ := hzz1
  by_cases hlz1 : rz1 < 0
  · go_wp2_with fail
    go_ret
    exact ⟨rfl, kept_trans KB0 Kz1⟩
  have hlz1' : 0 ≤ rz1 := by omega
  have lc1 : ((c10.size : Nat) : Int) ≤ 1048576 := by have := hqz1.out hlz1'; omega
  have qn1_0 := cell_keep (Kz1) qb1_0
  have qn1_1 := cell_keep (Kz1) qb1_1
  have qn1_2 := cell_keep (Kz1) qb1_2
  go_upto_region 8 with (fail)
  go_cut [8, 9] (fun p e wx => ∃ g : Nat, p = .pointer (some ⟨g, 0, none⟩) ∧ e = .int .i64 r1 ∧ Below z1.heap.size z1 wx ∧ z1.heap.size ≤ g ∧ g < wx.heap.size ∧ wx.cell? ⟨g, 0, none⟩ = some (.string r00) ∧ wx.cell? ⟨g, 1, none⟩ = some (.int .i64 r01) ∧ wx.cell? ⟨g, 2, none⟩ = some (.int .i64 r02))
  case first =>
    go_region_held3 (fun w' => w'.cell? ⟨W.heap.size, 0, none⟩ = some (.string c10) ∧ w'.cell? ⟨W.heap.size, 1, none⟩ = some (.int .i64 c11) ∧ w'.cell? ⟨W.heap.size, 2, none⟩ = some (.int .i64 c12)) (((try dsimp only); (repeat' apply And.intro) <;> (first | (go_keep; done) | (apply cell_kept; assumption; repeat (first | assumption | exact Below.refl _ _ | refine kept_drew ?_ | refine kept_alloc ?_ _ | refine kept_set ?_ ?_ _ | exact Nat.le_refl _ | refine kept_trans ?_ (by assumption) | (simp; omega) | (simp; done)))))) (first | (go_at_call 40; refine (toFareS_at _ _ n0 f0a f0b f0c f0d _ (by first | (simp; done) | (simp; rfl) | rfl) (HSA0.kept (kept_trans Kz1 (by repeat (first | assumption | exact Below.refl _ _ | refine kept_drew ?_ | refine kept_alloc ?_ _ | refine kept_set ?_ ?_ _ | exact Nat.le_refl _ | refine kept_trans ?_ (by assumption) | (simp; omega) | (simp; done))))) ln0).mono ?_; rintro e x1 ⟨rfl, hbx1, hux1⟩; obtain ⟨hc1, hf1⟩ := bcell hbx1; have hz1 := hbx1.size; (try simp at hz1); (try have hz1' := Nat.lt_of_succ_le hz1)) | (go_at_call 53; refine (l_toTicket c10 c11 c12 _).mono ?_; rintro e x2 ⟨rfl, hbx2⟩; obtain ⟨hc2, hf2⟩ := bcell hbx2; have hz2 := hbx2.size; (try simp at hz2); (try have hz2' := Nat.lt_of_succ_le hz2); (try have hz12 := Nat.lt_of_lt_of_le hz1' hz2)) | (go_at_call 55; refine (HQ.out _ _ (hux1.kept (by repeat (first | assumption | exact Below.refl _ _ | refine kept_drew ?_ | refine kept_alloc ?_ _ | refine kept_set ?_ ?_ _ | exact Nat.le_refl _ | refine kept_trans ?_ (by assumption) | (simp; omega) | (simp; done)))) lb0 lc1).mono ?_; rintro e x3 ⟨rfl, hbx3⟩; obtain ⟨hc3, hf3⟩ := bcell hbx3; have hz3 := hbx3.size; try simp at hz3))
    · go_wp2_with fail
      go_meet
      exact ⟨_, rfl, rfl, (by repeat (first | assumption | exact Below.refl _ _ | refine kept_drew ?_ | refine kept_alloc ?_ _ | refine kept_set ?_ ?_ _ | exact Nat.le_refl _ | refine kept_trans ?_ (by assumption) | (simp; omega) | (simp; done))), (by first | exact Nat.le_refl _ | omega | (simp; omega)), (by first | omega | (simp; omega) | (simp; done)), ⟨boxed_at rfl rfl, boxed_at rfl rfl, boxed_at rfl rfl⟩⟩
    · go_wp2_with fail
      go_meet
      exact ⟨_, rfl, rfl, (by repeat (first | assumption | exact Below.refl _ _ | refine kept_drew ?_ | refine kept_alloc ?_ _ | refine kept_set ?_ ?_ _ | exact Nat.le_refl _ | refine kept_trans ?_ (by assumption) | (simp; omega) | (simp; done))), (by first | exact Nat.le_refl _ | omega | (simp; omega)), (by first | omega | (simp; omega) | (simp; done)), set3_at (cell_keep hbx3 (boxed_at (i := 0) (by first | rfl | simp) rfl)) (cell_keep hbx3 (boxed_at (i := 1) (by first | rfl | simp) rfl)) (cell_keep hbx3 (boxed_at (i := 2) (by first | rfl | simp) rfl))⟩
    · go_wp2_with fail
      go_meet
      exact ⟨_, rfl, rfl, (by repeat (first | assumption | exact Below.refl _ _ | refine kept_drew ?_ | refine kept_alloc ?_ _ | refine kept_set ?_ ?_ _ | exact Nat.le_refl _ | refine kept_trans ?_ (by assumption) | (simp; omega) | (simp; done))), (by first | exact Nat.le_refl _ | omega | (simp; omega)), (by first | omega | (simp; omega) | (simp; done)), set3_at (cell_keep hbx3 (cell_keep hbx2 (boxed_at (i := 0) (by first | rfl | simp) rfl))) (cell_keep hbx3 (cell_keep hbx2 (boxed_at (i := 1) (by first | rfl | simp) rfl))) (cell_keep hbx3 (cell_keep hbx2 (boxed_at (i := 2) (by first | rfl | simp) rfl)))⟩
    · go_wp2_with fail
      go_meet
      exact ⟨_, rfl, rfl, (by repeat (first | assumption | exact Below.refl _ _ | refine kept_drew ?_ | refine kept_alloc ?_ _ | refine kept_set ?_ ?_ _ | exact Nat.le_refl _ | refine kept_trans ?_ (by assumption) | (simp; omega) | (simp; done))), (by first | exact Nat.le_refl _ | omega | (simp; omega)), (by first | omega | (simp; omega) | (simp; done)), set3_at (cell_keep hbx3 (cell_keep hbx2 (cell_keep hbx1 (boxed_at (i := 0) (by first | rfl | simp) rfl)))) (cell_keep hbx3 (cell_keep hbx2 (cell_keep hbx1 (boxed_at (i := 1) (by first | rfl | simp) rfl)))) (cell_keep hbx3 (cell_keep hbx2 (cell_keep hbx1 (boxed_at (i := 2) (by first | rfl | simp) rfl))))⟩
  case rest =>
    obtain ⟨gb, rfl, rfl, hbx3, hgl, hgu, hg0, hg1, hg2⟩ := hcut
    go_wp2_with fail
    refine (toFareS_any _ n0 f0a f0b f0c f0d _ (HSA0.kept (kept_trans Kz1 hbx3)) ln0).mono ?_
    rintro e x5 ⟨rfl, hbx5, hr0⟩
    have szx5 := hbx5.size
    have xs0 : Sl x5 (.slice (some ⟨wc.heap.size, 0, none⟩) n0 n0) 4 n0 (gc f0a f0b f0c f0d) := Sl.of_row hn0 (Row.of_rowIs hr0)
    have xl0 := hr0.lt
    clear hr0
    have qo6_0 := cell_keep (kept_trans (kept_trans Kz1 hbx3) hbx5) qb1_0
    have qo6_1 := cell_keep (kept_trans (kept_trans Kz1 hbx3) hbx5) qb1_1
    have qo6_2 := cell_keep (kept_trans (kept_trans Kz1 hbx3) hbx5) qb1_2
    go_wp2_with fail
    refine (l_toTicket c10 c11 c12 _).mono ?_
    rintro e x6 ⟨rfl, hbx6⟩
    have szx6 := hbx6.size
    go_wp2_with fail
    refine (HI.out _ _ ((xs0).kept hbx6) lb0 lc1).mono ?_
    rintro e x7 ⟨rfl, hbx7⟩
    have szx7 := hbx7.size
    have szbg0 : x7.heap.size ≤ (x7.alloc (.cells #[.string r00, .int .i64 r01, .int .i64 r02] 69)).heap.size := by simp
    have kq0 := boxed_at (w := x7) (cs := #[.string r00, .int .i64 r01, .int .i64 r02]) (t := 69) (i := 0) rfl rfl
    have kq1 := boxed_at (w := x7) (cs := #[.string r00, .int .i64 r01, .int .i64 r02]) (t := 69) (i := 1) rfl rfl
    have kq2 := boxed_at (w := x7) (cs := #[.string r00, .int .i64 r01, .int .i64 r02]) (t := 69) (i := 2) rfl rfl
    have kq3 := cell_keep (kept_trans (kept_trans (kept_trans (hbx5) hbx6) hbx7) (kept_alloc (Below.refl _ _) (.cells #[.string r00, .int .i64 r01, .int .i64 r02] 69))) hg0
    have kq4 := cell_keep (kept_trans (kept_trans (kept_trans (hbx5) hbx6) hbx7) (kept_alloc (Below.refl _ _) (.cells #[.string r00, .int .i64 r01, .int .i64 r02] 69))) hg1
    have kq5 := cell_keep (kept_trans (kept_trans (kept_trans (hbx5) hbx6) hbx7) (kept_alloc (Below.refl _ _) (.cells #[.string r00, .int .i64 r01, .int .i64 r02] 69))) hg2
    go_wp2_with fail
    refine (l_eqTicket _ _ _ _).mono ?_
    rintro e x9 ⟨rfl, hbx9⟩
    go_wp2_with fail
    refine (toFareS_sl _ n0 f0a f0b f0c f0d _ (HSA0.kept (kept_trans (kept_trans (kept_trans (kept_trans (kept_trans (kept_trans Kz1 hbx3) hbx5) hbx6) hbx7) (kept_alloc (Below.refl _ _) (.cells #[.string r00, .int .i64 r01, .int .i64 r02] 69))) hbx9)) ln0).mono ?_
    rintro e x10 ⟨rfl, hbx10, hux10, -⟩
    have szx10 := hbx10.size
    go_wp2_with fail
    refine (eqFareS_any _ _ n0 f0a f0b f0c f0d _ ((((((xs0).kept hbx6).kept hbx7).kept (kept_alloc (Below.refl _ _) (.cells #[.string r00, .int .i64 r01, .int .i64 r02] 69))).kept hbx9).kept hbx10) hux10).mono ?_
    rintro e x11 ⟨rfl, hbx11⟩
    have szx11 := hbx11.size
    go_wp2_with fail
    go_ret
    exact ⟨rfl, kept_trans KB0 (kept_trans (kept_trans (kept_trans (kept_trans (kept_trans (kept_trans (kept_trans (kept_trans Kz1 hbx3) hbx5) hbx6) hbx7) (kept_alloc (Below.refl _ _) (.cells #[.string r00, .int .i64 r01, .int .i64 r02] 69))) hbx9) hbx10) hbx11)⟩

end Go.Proofs.Ytfnollbeeehpnaa
