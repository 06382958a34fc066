/- The text of a group: the reference, the program, the law. -/
import Derived.Test.YthmifcinlbcbjaaDoorList
import Derived.Test.YthmifcinlbcbjaaDoorValid
import Derived.Deep.DeepCutAuto
import Derived.Deep.RegionHeld3
namespace Go.Proofs.YthmifcinlbcbjaaDoor
open Go.RowKit Go.Deep
set_option linter.unusedVariables false
set_option maxRecDepth 100000

theorem cell_keptT {w w1 : World} {b o : Nat} {v : Value} (hc : w.cell? ⟨b, o, none⟩ = some v) (hb : Below w.heap.size w w1) : w1.cell? ⟨b, o, none⟩ = some v := cell_keep hb hc
def f3 (x y z : Int) : Nat → Int := fun i => if i = 0 then x else if i = 1 then y else z
theorem sl3_at {w : World} {x y z : Int} {t : TypeId} {k : Nat} (hk : w.heap.size = k) : Sl (w.alloc (.cells #[.int .i64 x, .int .i64 y, .int .i64 z] t)) (.slice (some ⟨k, 0, none⟩) 3 3) 1 3 (ic (f3 x y z)) := by
  subst hk
  exact Sl.of_row (by omega) (Row.of_rowIs (World.rowIs_alloc w #[.int .i64 x, .int .i64 y, .int .i64 z] t (ic (f3 x y z)) (fun i hi => by
    have hi' : i < 3 := by simpa using hi
    match i, hi' with
    | 0, _ => rfl
    | 1, _ => rfl
    | 2, _ => rfl)))
theorem f3_bd {x y z : Int} {m : Int} (hx : 0 ≤ x ∧ x ≤ m) (hy : 0 ≤ y ∧ y ≤ m) (hz : 0 ≤ z ∧ z ≤ m) : ∀ i, i < 3 → 0 ≤ f3 x y z i ∧ f3 x y z i ≤ m := fun i hi => by
  unfold f3; split
  · exact hx
  · split
    · exact hy
    · exact hz
/-- The group's text. -/
def groupS (s : ByteArray) (b c d : Int) : ByteArray := if vGr s b c d = true then s ++ ⟨#[32]⟩ ++ lsS (f3 b c d) 3 else ⟨#[]⟩
theorem groupS_no {s : ByteArray} {b c d : Int} (h : vGr s b c d = false) : groupS s b c d = ⟨#[]⟩ := by unfold groupS; rw [if_neg (by rw [h]; simp)]
theorem groupS_yes {s : ByteArray} {b c d : Int} (h : vGr s b c d = true) : groupS s b c d = s ++ ⟨#[32]⟩ ++ lsS (f3 b c d) 3 := by unfold groupS; rw [if_pos h]
attribute [irreducible] groupS f3

set_option maxHeartbeats 1600000 in
theorem s_GroupIn (s : ByteArray) (b c d : Int) (g : Nat) (W : World) (hs : (s.size : Int) ≤ 1048576) (hb : 0 ≤ b ∧ b ≤ 1000000) (hc : 0 ≤ c ∧ c ≤ 1000000) (hd : 0 ≤ d ∧ d ≤ 1000000)
    (c0 : W.cell? ⟨g, 0, none⟩ = some (.string s)) (c1 : W.cell? ⟨g, 1, none⟩ = some (.int .i64 b)) (c2 : W.cell? ⟨g, 2, none⟩ = some (.int .i64 c)) (c3 : W.cell? ⟨g, 3, none⟩ = some (.int .i64 d)) :
    Calls Tryd.prog 33 #[.pointer (some ⟨g, 0, none⟩)] W fun e W' => e = .returned (.string (s ++ ⟨#[32]⟩ ++ lsS (f3 b c d) 3)) ∧ Below W.heap.size W W' := by
  have HB3 := f3_bd hb hc hd
  have HLS := Lib.hid (fun w v h => s_l01List v 3 (f3 b c d) w h (by omega) (by omega) (fun i hi => by have := HB3 i hi; omega))
  have z1 := lsS_size (n := 3) (z := f3 b c d) (fun i hi => by have := HB3 i hi; omega) 3 (by omega)
  have z3 : (⟨#[32]⟩ : ByteArray).size = 1 := rfl
  have z4 : (s ++ ⟨#[32]⟩).size = s.size + 1 := by rw [ByteArray.size_append]; rfl
  have z4 : (s ++ ⟨#[32]⟩).size ≤ 1048577 := by omega
  have hs' : s.size ≤ 1048576 := by omega
  generalize lsS (f3 b c d) 3 = L at *
  have he1 : ¬ (9223372036854775807 < s.size + 1) := by omega
  have he2 : ¬ (9223372036854775807 ≤ s.size) := by omega
  have he3 : ¬ (9223372036854775807 < s.size + 1 + L.size) := by omega
  have he4 : ¬ (9223372036854775807 < (s ++ ⟨#[32]⟩).size + L.size) := by omega
  clear HB3 hb hc hd
  go_enter Tryd.func33, Tryd.ntmps33
  go_upto_region 1 with (fail)
  go_region_held3 (fun w' => w'.cell? ⟨g, 0, none⟩ = some (.string s) ∧ w'.cell? ⟨g, 1, none⟩ = some (.int .i64 b) ∧ w'.cell? ⟨g, 2, none⟩ = some (.int .i64 c) ∧ w'.cell? ⟨g, 3, none⟩ = some (.int .i64 d)) (((try dsimp only); (repeat' apply And.intro) <;> (first | (go_keep; done) | (apply cell_keptT; assumption; repeat (first | assumption | exact Below.refl _ _ | refine kept_drew ?_ | refine kept_alloc ?_ _ | refine kept_trans ?_ (by assumption)))))) (first | (go_at_call 41; refine (HLS.out _ _ (by first | exact sl3_at (by first | rfl | simp) | exact (sl3_at (by first | rfl | simp)).kept (by repeat (first | assumption | exact Below.refl _ _ | refine kept_drew ?_ | refine kept_alloc ?_ _ | refine kept_trans ?_ (by assumption))))).mono ?_; rintro e x1 ⟨rfl, hbx1⟩))
  all_goals
    go_wp2_with fail
    go_ret
    exact ⟨rfl, (by repeat (first | assumption | exact Below.refl _ _ | refine kept_drew ?_ | refine kept_alloc ?_ _ | refine kept_trans ?_ (by assumption)))⟩

theorem s_GroupText (s : ByteArray) (b c d : Int) (W : World) (hs : (s.size : Int) ≤ 1048576) : Calls Tryd.prog 18 #[.agg #[.string s, .int .i64 b, .int .i64 c, .int .i64 d]] W fun e W' => e = .returned (.string (groupS s b c d)) ∧ Below W.heap.size W W' := by
  have KA := kept_alloc (Below.refl W.heap.size W) (.cells #[.string s, .int .i64 b, .int .i64 c, .int .i64 d] 45)
  have q0 : (W.alloc (.cells #[.string s, .int .i64 b, .int .i64 c, .int .i64 d] 45)).cell? ⟨W.heap.size, 0, none⟩ = some (.string s) := boxed_at rfl rfl
  have q1 : (W.alloc (.cells #[.string s, .int .i64 b, .int .i64 c, .int .i64 d] 45)).cell? ⟨W.heap.size, 1, none⟩ = some (.int .i64 b) := boxed_at rfl rfl
  have q2 : (W.alloc (.cells #[.string s, .int .i64 b, .int .i64 c, .int .i64 d] 45)).cell? ⟨W.heap.size, 2, none⟩ = some (.int .i64 c) := boxed_at rfl rfl
  have q3 : (W.alloc (.cells #[.string s, .int .i64 b, .int .i64 c, .int .i64 d] 45)).cell? ⟨W.heap.size, 3, none⟩ = some (.int .i64 d) := boxed_at rfl rfl
  have HO := Lib.hid (s_oneGroup s b c d W.heap.size 0 _ hs q0 q1 q2 q3)
  cases hv : vGr s b c d
  · rw [groupS_no hv]
    rw [hv] at HO
    clear hv
    go_enter Tryd.func18, Tryd.ntmps18
    go_wp2_with (go_at_call 32; refine HO.out.mono ?_; rintro e w1 ⟨rfl, rfl⟩)
    go_ret
    exact ⟨rfl, KA⟩
  · have hbd := (vGr_out hv).2
    rw [hv] at HO
    rw [groupS_yes hv]
    have HT := Lib.hid (s_GroupIn s b c d W.heap.size _ hs (by omega) (by omega) (by omega) q0 q1 q2 q3)
    clear hv hbd
    go_enter Tryd.func18, Tryd.ntmps18
    go_wp2_with (first | (go_at_call 32; refine HO.out.mono ?_; rintro e w1 ⟨rfl, rfl⟩) | (go_at_call 33; refine HT.out.mono ?_; rintro e w2 ⟨rfl, hb2⟩))
    go_ret
    exact ⟨rfl, kept_trans KA hb2⟩

set_option maxHeartbeats 1600000 in
theorem i_GroupText (s : ByteArray) (b c d : Int) (W : World) (hs : (s.size : Int) ≤ 1048576) (htab : Tab10 W) : Calls Tryd.prog 20 #[.agg #[.string s, .int .i64 b, .int .i64 c, .int .i64 d]] W fun e W' => e = .returned (.string (groupS s b c d)) ∧ Below W.heap.size W W' := by
  have KA := kept_alloc (Below.refl W.heap.size W) (.cells #[.string s, .int .i64 b, .int .i64 c, .int .i64 d] 45)
  have q0 : (W.alloc (.cells #[.string s, .int .i64 b, .int .i64 c, .int .i64 d] 45)).cell? ⟨W.heap.size, 0, none⟩ = some (.string s) := boxed_at rfl rfl
  have q1 : (W.alloc (.cells #[.string s, .int .i64 b, .int .i64 c, .int .i64 d] 45)).cell? ⟨W.heap.size, 1, none⟩ = some (.int .i64 b) := boxed_at rfl rfl
  have q2 : (W.alloc (.cells #[.string s, .int .i64 b, .int .i64 c, .int .i64 d] 45)).cell? ⟨W.heap.size, 2, none⟩ = some (.int .i64 c) := boxed_at rfl rfl
  have q3 : (W.alloc (.cells #[.string s, .int .i64 b, .int .i64 c, .int .i64 d] 45)).cell? ⟨W.heap.size, 3, none⟩ = some (.int .i64 d) := boxed_at rfl rfl
  have HO := Lib.hid (fun w => i_validGroup s b c d w hs)
  have HTB := Lib.hid (htab.kept KA)
  cases hv : vGr s b c d
  · rw [groupS_no hv]
    rw [hv] at HO
    clear hv
    go_enter Tryd.func20, Tryd.ntmps20
    go_wp2_with (go_at_call 34; refine (HO.out _).mono ?_; rintro e w1 ⟨rfl, hb1⟩)
    go_ret
    exact ⟨rfl, kept_trans KA hb1⟩
  · have hbd := (vGr_out hv).2
    rw [hv] at HO
    rw [groupS_yes hv]
    have HB3 := f3_bd (x := b) (y := c) (z := d) (m := 1000000) (by omega) (by omega) (by omega)
    have HLS := Lib.hid (fun w v h ht => i_ListText v 3 (f3 b c d) w h (by omega) (by omega) (fun i hi => by have := HB3 i hi; omega) ht)
    have z1 := lsS_size (n := 3) (z := f3 b c d) (fun i hi => by have := HB3 i hi; omega) 3 (by omega)
    have z3 : (⟨#[32]⟩ : ByteArray).size = 1 := rfl
    have z4 : (s ++ ⟨#[32]⟩).size = s.size + 1 := by rw [ByteArray.size_append]; rfl
    have z4 : (s ++ ⟨#[32]⟩).size ≤ 1048577 := by omega
    have hs' : s.size ≤ 1048576 := by omega
    generalize lsS (f3 b c d) 3 = L at *
    have he1 : ¬ (9223372036854775807 < s.size + 1) := by omega
    have he2 : ¬ (9223372036854775807 ≤ s.size) := by omega
    have he3 : ¬ (9223372036854775807 < s.size + 1 + L.size) := by omega
    have he4 : ¬ (9223372036854775807 < (s ++ ⟨#[32]⟩).size + L.size) := by omega
    clear HB3 hbd hv
    go_enter Tryd.func20, Tryd.ntmps20
    go_upto_region 3 with (go_at_call 34; refine (HO.out _).mono ?_; rintro e w1 ⟨rfl, hb1⟩; have c0 := cell_keep hb1 q0; have c1 := cell_keep hb1 q1; have c2 := cell_keep hb1 q2; have c3 := cell_keep hb1 q3)
    have KB := kept_trans KA hb1
    have HT1 := Lib.hid (HTB.out.kept hb1)
    clear q0 q1 q2 q3 KA hb1 htab
    go_region_held3 (fun w' => w'.cell? ⟨W.heap.size, 0, none⟩ = some (.string s) ∧ w'.cell? ⟨W.heap.size, 1, none⟩ = some (.int .i64 b) ∧ w'.cell? ⟨W.heap.size, 2, none⟩ = some (.int .i64 c) ∧ w'.cell? ⟨W.heap.size, 3, none⟩ = some (.int .i64 d)) (((try dsimp only); (repeat' apply And.intro) <;> (first | (go_keep; done) | (apply cell_keptT; assumption; repeat (first | assumption | exact Below.refl _ _ | refine kept_drew ?_ | refine kept_alloc ?_ _ | refine kept_trans ?_ (by assumption)))))) (first | (go_at_call 28; refine (HLS.out _ _ (by first | exact sl3_at (by first | rfl | simp) | exact (sl3_at (by first | rfl | simp)).kept (by repeat (first | assumption | exact Below.refl _ _ | refine kept_drew ?_ | refine kept_alloc ?_ _ | refine kept_trans ?_ (by assumption)))) (HT1.out.kept (by repeat (first | assumption | exact Below.refl _ _ | refine kept_drew ?_ | refine kept_alloc ?_ _ | refine kept_trans ?_ (by assumption))))).mono ?_; rintro e x1 ⟨rfl, hbx1⟩))
    all_goals
      go_wp2_with fail
      go_ret
      exact ⟨rfl, kept_trans KB (by repeat (first | assumption | exact Below.refl _ _ | refine kept_drew ?_ | refine kept_alloc ?_ _ | refine kept_trans ?_ (by assumption)))⟩

theorem l_GroupText (s : ByteArray) (b c d : Int) (hsz : (s.size : Int) ≤ 9223372036854775807) (W : World) (htab : Tab10 W) : Calls Tryd.prog 6 #[.agg #[.string s, .int .i64 b, .int .i64 c, .int .i64 d]] W (Truly W) := by
  have KA := kept_alloc (Below.refl W.heap.size W) (.cells #[.string s, .int .i64 b, .int .i64 c, .int .i64 d] 42)
  have q0 : (W.alloc (.cells #[.string s, .int .i64 b, .int .i64 c, .int .i64 d] 42)).cell? ⟨W.heap.size, 0, none⟩ = some (.string s) := boxed_at rfl rfl
  have q1 : (W.alloc (.cells #[.string s, .int .i64 b, .int .i64 c, .int .i64 d] 42)).cell? ⟨W.heap.size, 1, none⟩ = some (.int .i64 b) := boxed_at rfl rfl
  have q2 : (W.alloc (.cells #[.string s, .int .i64 b, .int .i64 c, .int .i64 d] 42)).cell? ⟨W.heap.size, 2, none⟩ = some (.int .i64 c) := boxed_at rfl rfl
  have q3 : (W.alloc (.cells #[.string s, .int .i64 b, .int .i64 c, .int .i64 d] 42)).cell? ⟨W.heap.size, 3, none⟩ = some (.int .i64 d) := boxed_at rfl rfl
  have HTB := Lib.hid (htab.kept KA)
  go_enter Tryd.func6, Tryd.ntmps6
  go_wp2_with fail
  refine (sz_Group s b c d _ _ (by omega) hsz).mono ?_
  rintro e x0 ⟨r, rfl, hr, hq, hb0⟩
  obtain ⟨hr1, hr2⟩ := hr
  by_cases hrn : r < 0
  · go_wp2_with fail
    go_ret
    exact ⟨rfl, kept_trans KA hb0⟩
  have hr0 : 0 ≤ r := by omega
  have hs : (s.size : Int) ≤ 1048576 := by have := hq.out hr0; omega
  have t0 := cell_keep hb0 q0
  have t1 := cell_keep hb0 q1
  have t2 := cell_keep hb0 q2
  have t3 := cell_keep hb0 q3
  go_wp2_with fail
  refine (l_toGroup s b c d _).mono ?_
  rintro e x1 ⟨rfl, hb1⟩
  go_wp2_with fail
  refine (s_GroupText s b c d _ hs).mono ?_
  rintro e x2 ⟨rfl, hb2⟩
  have u0 := cell_keep (kept_trans hb1 hb2) t0
  have u1 := cell_keep (kept_trans hb1 hb2) t1
  have u2 := cell_keep (kept_trans hb1 hb2) t2
  have u3 := cell_keep (kept_trans hb1 hb2) t3
  go_wp2_with fail
  refine (l_toGroup s b c d _).mono ?_
  rintro e x3 ⟨rfl, hb3⟩
  go_wp2_with fail
  refine (i_GroupText s b c d _ hs ((((HTB.out.kept hb0).kept hb1).kept hb2).kept hb3)).mono ?_
  rintro e x4 ⟨rfl, hb4⟩
  go_wp2_with fail
  go_ret
  exact ⟨rfl, kept_trans (kept_trans (kept_trans (kept_trans (kept_trans KA hb0) hb1) hb2) hb3) hb4⟩

end Go.Proofs.YthmifcinlbcbjaaDoor
