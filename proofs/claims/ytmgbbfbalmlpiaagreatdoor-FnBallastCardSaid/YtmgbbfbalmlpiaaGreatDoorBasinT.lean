/- The text of a basin: the reference, the program, the law. -/
import Derived.Test.YtmgbbfbalmlpiaaGreatDoorList
import Derived.Test.YtmgbbfbalmlpiaaGreatDoorBallast
import Derived.Deep.DeepCutAuto
import Derived.Deep.RegionHeld3
namespace Go.Proofs.YtmgbbfbalmlpiaaGreatDoor
open Go.RowKit Go.Deep
set_option linter.unusedVariables false
set_option maxRecDepth 100000

theorem cell_keptT {w w1 : World} {b o : Nat} {v : Value} (hc : w.cell? ⟨b, o, none⟩ = some v) (hb : Below w.heap.size w w1) : w1.cell? ⟨b, o, none⟩ = some v := cell_keep hb hc
def f4 (a x y z : Int) : Nat → Int := fun i => if i = 0 then a else if i = 1 then x else if i = 2 then y else z
theorem sl4_at {w : World} {a x y z : Int} {t : TypeId} {k : Nat} (hk : w.heap.size = k) : Sl (w.alloc (.cells #[.int .i64 a, .int .i64 x, .int .i64 y, .int .i64 z] t)) (.slice (some ⟨k, 0, none⟩) 4 4) 1 4 (ic (f4 a x y z)) := by
  subst hk
  exact Sl.of_row (by omega) (Row.of_rowIs (World.rowIs_alloc w #[.int .i64 a, .int .i64 x, .int .i64 y, .int .i64 z] t (ic (f4 a x y z)) (fun i hi => by
    have hi' : i < 4 := by simpa using hi
    match i, hi' with
    | 0, _ => rfl
    | 1, _ => rfl
    | 2, _ => rfl
    | 3, _ => rfl)))
theorem f4_bd {a x y z : Int} {m : Int} (ha : 0 ≤ a ∧ a ≤ m) (hx : 0 ≤ x ∧ x ≤ m) (hy : 0 ≤ y ∧ y ≤ m) (hz : 0 ≤ z ∧ z ≤ m) : ∀ i, i < 4 → 0 ≤ f4 a x y z i ∧ f4 a x y z i ≤ m := fun i hi => by
  unfold f4; split
  · exact ha
  · split
    · exact hx
    · split
      · exact hy
      · exact hz
/-- The basin's text. -/
def basinS (a b c d : Int) : ByteArray := if vBasin a b c d = true then lsS (f4 a b c d) 4 else ⟨#[]⟩
theorem basinS_no {a b c d : Int} (h : vBasin a b c d = false) : basinS a b c d = ⟨#[]⟩ := by unfold basinS; rw [if_neg (by rw [h]; simp)]
theorem basinS_yes {a b c d : Int} (h : vBasin a b c d = true) : basinS a b c d = lsS (f4 a b c d) 4 := by unfold basinS; rw [if_pos h]
attribute [irreducible] basinS f4

theorem i_BasinText (a b c d : Int) (W : World) (htab : Tab10 W) : Calls Tryz.prog 13 #[.agg #[.int .i64 a, .int .i64 b, .int .i64 c, .int .i64 d]] W fun e W' => e = .returned (.string (basinS a b c d)) ∧ Below W.heap.size W W' := by
  have KA := kept_alloc (Below.refl W.heap.size W) (.cells #[.int .i64 a, .int .i64 b, .int .i64 c, .int .i64 d] 25)
  have q0 : (W.alloc (.cells #[.int .i64 a, .int .i64 b, .int .i64 c, .int .i64 d] 25)).cell? ⟨W.heap.size, 0, none⟩ = some (.int .i64 a) := boxed_at rfl rfl
  have q1 : (W.alloc (.cells #[.int .i64 a, .int .i64 b, .int .i64 c, .int .i64 d] 25)).cell? ⟨W.heap.size, 1, none⟩ = some (.int .i64 b) := boxed_at rfl rfl
  have q2 : (W.alloc (.cells #[.int .i64 a, .int .i64 b, .int .i64 c, .int .i64 d] 25)).cell? ⟨W.heap.size, 2, none⟩ = some (.int .i64 c) := boxed_at rfl rfl
  have q3 : (W.alloc (.cells #[.int .i64 a, .int .i64 b, .int .i64 c, .int .i64 d] 25)).cell? ⟨W.heap.size, 3, none⟩ = some (.int .i64 d) := boxed_at rfl rfl
  have HO := Lib.hid (fun w => i_ValidBasin a b c d w)
  have HTB := Lib.hid (htab.kept KA)
  cases hv : vBasin a b c d
  · rw [basinS_no hv]
    rw [hv] at HO
    clear hv
    go_enter Tryz.func13, Tryz.ntmps13
    go_wp2_with (go_at_call 28; refine (HO.out _).mono ?_; rintro e w1 ⟨rfl, hb1⟩)
    go_ret
    exact ⟨rfl, kept_trans KA hb1⟩
  · have hbd := vBasin_out hv
    rw [hv] at HO
    rw [basinS_yes hv]
    have HLS := Lib.hid (fun w v h ht => i_ListText v 4 (f4 a b c d) w h (by omega) (by omega) (Lib.hid (fun i hi => by have := f4_bd (a := a) (x := b) (y := c) (z := d) (m := 10000000) (by omega) (by omega) (by omega) (by omega) i hi; omega)) ht)
    generalize lsS (f4 a b c d) 4 = L at *
    clear hbd hv
    go_enter Tryz.func13, Tryz.ntmps13
    go_upto_region 3 with (go_at_call 28; refine (HO.out _).mono ?_; rintro e w1 ⟨rfl, hb1⟩; have c0 := cell_keep hb1 q0; have c1 := cell_keep hb1 q1; have c2 := cell_keep hb1 q2; have c3 := cell_keep hb1 q3)
    have KB := kept_trans KA hb1
    have HT1 := Lib.hid (HTB.out.kept hb1)
    clear q0 q1 q2 q3 KA hb1 htab
    go_wp2_with (first | (go_at_call 35; refine (HLS.out _ _ (by first | exact sl4_at (by first | rfl | simp) | exact (sl4_at (by first | rfl | simp)).kept (by repeat (first | assumption | exact Below.refl _ _ | refine kept_drew ?_ | refine kept_alloc ?_ _ | refine kept_trans ?_ (by assumption)))) (HT1.out.kept (by repeat (first | assumption | exact Below.refl _ _ | refine kept_drew ?_ | refine kept_alloc ?_ _ | refine kept_trans ?_ (by assumption))))).mono ?_; rintro e x1 ⟨rfl, hbx1⟩))
    go_ret
    exact ⟨rfl, kept_trans KB (by repeat (first | assumption | exact Below.refl _ _ | refine kept_drew ?_ | refine kept_alloc ?_ _ | refine kept_trans ?_ (by assumption)))⟩

end Go.Proofs.YtmgbbfbalmlpiaaGreatDoor
