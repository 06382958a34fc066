/- The text of a fare: the reference, the program, the law. -/
import Derived.Test.YtjmklkhdemolmaaGreatDoorList
import Derived.Test.YtjmklkhdemolmaaGreatDoorValid
import Derived.Deep.DeepCutAuto
import Derived.Deep.RegionHeld3
namespace Go.Proofs.YtjmklkhdemolmaaGreatDoor
open Go.RowKit Go.Deep
set_option linter.unusedVariables false
set_option maxRecDepth 100000

theorem cell_keptT {w w1 : World} {b o : Nat} {v : Value} (hc : w.cell? ⟨b, o, none⟩ = some v) (hb : Below w.heap.size w w1) : w1.cell? ⟨b, o, none⟩ = some v := cell_keep hb hc
def f3 (x y z : Int) : Nat → Int := fun i => if i = 0 then x else if i = 1 then y else z
theorem sl3_at {w : World} {x y z : Int} {t : TypeId} {k : Nat} (hk : w.heap.size = k) : Sl (w.alloc (.cells #[.int .i64 x, .int .i64 y, .int .i64 z] t)) (.slice (some ⟨k, 0, none⟩) 3 3) 1 3 (ic (f3 x y z)) := by
  subst hk
  exact Sl.of_row (by omega) (Row.of_rowIs (World.rowIs_alloc w #[.int .i64 x, .int .i64 y, .int .i64 z] t (ic (f3 x y z)) (fun i hi => by
    have hi' : i < 3 := by simpa using hi
    match i, hi' with
    | 0, _ => rfl
    | 1, _ => rfl
    | 2, _ => rfl)))
theorem f3_bd {x y z : Int} {m : Int} (hx : 0 ≤ x ∧ x ≤ m) (hy : 0 ≤ y ∧ y ≤ m) (hz : 0 ≤ z ∧ z ≤ m) : ∀ i, i < 3 → 0 ≤ f3 x y z i ∧ f3 x y z i ≤ m := fun i hi => by
  unfold f3; split
  · exact hx
  · split
    · exact hy
    · exact hz
/-- The fare's text. -/
def fareS (s : ByteArray) (b c d : Int) : ByteArray := if vFa s b c d = true then s ++ ⟨#[32]⟩ ++ lsS (f3 b c d) 3 else ⟨#[]⟩
theorem fareS_no {s : ByteArray} {b c d : Int} (h : vFa s b c d = false) : fareS s b c d = ⟨#[]⟩ := by unfold fareS; rw [if_neg (by rw [h]; simp)]
theorem fareS_yes {s : ByteArray} {b c d : Int} (h : vFa s b c d = true) : fareS s b c d = s ++ ⟨#[32]⟩ ++ lsS (f3 b c d) 3 := by unfold fareS; rw [if_pos h]
attribute [irreducible] fareS f3

set_option maxHeartbeats 1600000 in
theorem s_FareIn (s : ByteArray) (b c d : Int) (g : Nat) (W : World) (hs : (s.size : Int) ≤ 1048576) (hb : 0 ≤ b ∧ b ≤ 1000000) (hc : 0 ≤ c ∧ c ≤ 1000000) (hd : 0 ≤ d ∧ d ≤ 1000000)
    (c0 : W.cell? ⟨g, 0, none⟩ = some (.string s)) (c1 : W.cell? ⟨g, 1, none⟩ = some (.int .i64 b)) (c2 : W.cell? ⟨g, 2, none⟩ = some (.int .i64 c)) (c3 : W.cell? ⟨g, 3, none⟩ = some (.int .i64 d)) :
    Calls Tryz.prog 27 #[.pointer (some ⟨g, 0, none⟩)] W fun e W' => e = .returned (.string (s ++ ⟨#[32]⟩ ++ lsS (f3 b c d) 3)) ∧ Below W.heap.size W W' := by
  have HB3 := f3_bd hb hc hd
  have HLS := Lib.hid (fun w v h => s_l01List v 3 (f3 b c d) w h (by omega) (by omega) (fun i hi => by have := HB3 i hi; omega))
  have z1 := lsS_size (n := 3) (z := f3 b c d) (fun i hi => by have := HB3 i hi; omega) 3 (by omega)
  have z3 : (⟨#[32]⟩ : ByteArray).size = 1 := rfl
  have z4 : (s ++ ⟨#[32]⟩).size = s.size + 1 := by rw [ByteArray.size_append]; rfl
  have z4 : (s ++ ⟨#[32]⟩).size ≤ 1048577 := by omega
  have hs' : s.size ≤ 1048576 := by omega
  generalize lsS (f3 b c d) 3 = L at *
  have he1 : ¬ (9223372036854775807 < s.size + 1) := by omega
  have he2 : ¬ (9223372036854775807 ≤ s.size) := by omega
  have he3 : ¬ (9223372036854775807 < s.size + 1 + L.size) := by omega
  have he4 : ¬ (9223372036854775807 < (s ++ ⟨#[32]⟩).size + L.size) := by omega
  clear HB3 hb hc hd
  go_enter Tryz.func27, Tryz.ntmps27
  go_upto_region 1 with (fail)
  go_region_held3 (fun w' => w'.cell? ⟨g, 0, none⟩ = some (.string s) ∧ w'.cell? ⟨g, 1, none⟩ = some (.int .i64 b) ∧ w'.cell? ⟨g, 2, none⟩ = some (.int .i64 c) ∧ w'.cell? ⟨g, 3, none⟩ = some (.int .i64 d)) (((try dsimp only); (repeat' apply And.intro) <;> (first | (go_keep; done) | (apply cell_keptT; assumption; repeat (first | assumption | exact Below.refl _ _ | refine kept_drew ?_ | refine kept_alloc ?_ _ | refine kept_trans ?_ (by assumption)))))) (first | (go_at_call 44; refine (HLS.out _ _ (by first | exact sl3_at (by first | rfl | simp) | exact (sl3_at (by first | rfl | simp)).kept (by repeat (first | assumption | exact Below.refl _ _ | refine kept_drew ?_ | refine kept_alloc ?_ _ | refine kept_trans ?_ (by assumption))))).mono ?_; rintro e x1 ⟨rfl, hbx1⟩))
  all_goals
    go_wp2_with fail
    go_ret
    exact ⟨rfl, (by repeat (first | assumption | exact Below.refl _ _ | refine kept_drew ?_ | refine kept_alloc ?_ _ | refine kept_trans ?_ (by assumption)))⟩

set_option maxHeartbeats 1600000 in
theorem i_FareText (s : ByteArray) (b c d : Int) (W : World) (hs : (s.size : Int) ≤ 1048576) (htab : Tab10 W) : Calls Tryz.prog 12 #[.agg #[.string s, .int .i64 b, .int .i64 c, .int .i64 d]] W fun e W' => e = .returned (.string (fareS s b c d)) ∧ Below W.heap.size W W' := by
  have KA := kept_alloc (Below.refl W.heap.size W) (.cells #[.string s, .int .i64 b, .int .i64 c, .int .i64 d] 32)
  have q0 : (W.alloc (.cells #[.string s, .int .i64 b, .int .i64 c, .int .i64 d] 32)).cell? ⟨W.heap.size, 0, none⟩ = some (.string s) := boxed_at rfl rfl
  have q1 : (W.alloc (.cells #[.string s, .int .i64 b, .int .i64 c, .int .i64 d] 32)).cell? ⟨W.heap.size, 1, none⟩ = some (.int .i64 b) := boxed_at rfl rfl
  have q2 : (W.alloc (.cells #[.string s, .int .i64 b, .int .i64 c, .int .i64 d] 32)).cell? ⟨W.heap.size, 2, none⟩ = some (.int .i64 c) := boxed_at rfl rfl
  have q3 : (W.alloc (.cells #[.string s, .int .i64 b, .int .i64 c, .int .i64 d] 32)).cell? ⟨W.heap.size, 3, none⟩ = some (.int .i64 d) := boxed_at rfl rfl
  have HO := Lib.hid (fun w => i_validFare s b c d w hs)
  have HTB := Lib.hid (htab.kept KA)
  cases hv : vFa s b c d
  · rw [fareS_no hv]
    rw [hv] at HO
    clear hv
    go_enter Tryz.func12, Tryz.ntmps12
    go_wp2_with (go_at_call 31; refine (HO.out _).mono ?_; rintro e w1 ⟨rfl, hb1⟩)
    go_ret
    exact ⟨rfl, kept_trans KA hb1⟩
  · have hbd := (vFa_out hv).2
    rw [hv] at HO
    rw [fareS_yes hv]
    have HB3 := f3_bd (x := b) (y := c) (z := d) (m := 1000000) (by omega) (by omega) (by omega)
    have HLS := Lib.hid (fun w v h ht => i_ListText v 3 (f3 b c d) w h (by omega) (by omega) (fun i hi => by have := HB3 i hi; omega) ht)
    have z1 := lsS_size (n := 3) (z := f3 b c d) (fun i hi => by have := HB3 i hi; omega) 3 (by omega)
    have z3 : (⟨#[32]⟩ : ByteArray).size = 1 := rfl
    have z4 : (s ++ ⟨#[32]⟩).size = s.size + 1 := by rw [ByteArray.size_append]; rfl
    have z4 : (s ++ ⟨#[32]⟩).size ≤ 1048577 := by omega
    have hs' : s.size ≤ 1048576 := by omega
    generalize lsS (f3 b c d) 3 = L at *
    have he1 : ¬ (9223372036854775807 < s.size + 1) := by omega
    have he2 : ¬ (9223372036854775807 ≤ s.size) := by omega
    have he3 : ¬ (9223372036854775807 < s.size + 1 + L.size) := by omega
    have he4 : ¬ (9223372036854775807 < (s ++ ⟨#[32]⟩).size + L.size) := by omega
    clear HB3 hbd hv
    go_enter Tryz.func12, Tryz.ntmps12
    go_upto_region 3 with (go_at_call 31; refine (HO.out _).mono ?_; rintro e w1 ⟨rfl, hb1⟩; have c0 := cell_keep hb1 q0; have c1 := cell_keep hb1 q1; have c2 := cell_keep hb1 q2; have c3 := cell_keep hb1 q3)
    have KB := kept_trans KA hb1
    have HT1 := Lib.hid (HTB.out.kept hb1)
    clear q0 q1 q2 q3 KA hb1 htab
    go_region_held3 (fun w' => w'.cell? ⟨W.heap.size, 0, none⟩ = some (.string s) ∧ w'.cell? ⟨W.heap.size, 1, none⟩ = some (.int .i64 b) ∧ w'.cell? ⟨W.heap.size, 2, none⟩ = some (.int .i64 c) ∧ w'.cell? ⟨W.heap.size, 3, none⟩ = some (.int .i64 d)) (((try dsimp only); (repeat' apply And.intro) <;> (first | (go_keep; done) | (apply cell_keptT; assumption; repeat (first | assumption | exact Below.refl _ _ | refine kept_drew ?_ | refine kept_alloc ?_ _ | refine kept_trans ?_ (by assumption)))))) (first | (go_at_call 32; refine (HLS.out _ _ (by first | exact sl3_at (by first | rfl | simp) | exact (sl3_at (by first | rfl | simp)).kept (by repeat (first | assumption | exact Below.refl _ _ | refine kept_drew ?_ | refine kept_alloc ?_ _ | refine kept_trans ?_ (by assumption)))) (HT1.out.kept (by repeat (first | assumption | exact Below.refl _ _ | refine kept_drew ?_ | refine kept_alloc ?_ _ | refine kept_trans ?_ (by assumption))))).mono ?_; rintro e x1 ⟨rfl, hbx1⟩))
    all_goals
      go_wp2_with fail
      go_ret
      exact ⟨rfl, kept_trans KB (by repeat (first | assumption | exact Below.refl _ _ | refine kept_drew ?_ | refine kept_alloc ?_ _ | refine kept_trans ?_ (by assumption)))⟩

end Go.Proofs.YtjmklkhdemolmaaGreatDoor
