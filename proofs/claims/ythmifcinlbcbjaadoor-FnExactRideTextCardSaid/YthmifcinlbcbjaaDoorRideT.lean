/- The text of a ride: the reference, the program, the law. -/
import Derived.Test.YthmifcinlbcbjaaDoorDec
import Derived.Test.YthmifcinlbcbjaaDoorTable
import Derived.Deep.DeepCutAuto
import Derived.Deep.RegionHeld3
namespace Go.Proofs.YthmifcinlbcbjaaDoor
open Go.RowKit Go.Deep
set_option linter.unusedVariables false
set_option maxRecDepth 100000

def rideS (l t : Int) : ByteArray := if vRide l t = true then decS l.toNat ++ ⟨#[43]⟩ ++ decS t.toNat else ⟨#[]⟩
theorem rideS_no {l t : Int} (h : vRide l t = false) : rideS l t = ⟨#[]⟩ := by unfold rideS; rw [if_neg (by rw [h]; simp)]
theorem rideS_yes {l t : Int} (h : vRide l t = true) : rideS l t = decS l.toNat ++ ⟨#[43]⟩ ++ decS t.toNat := by unfold rideS; rw [if_pos h]
attribute [irreducible] rideS

theorem s_l19Text (l t : Int) (g : Nat) (W : World) (hl : 0 ≤ l ∧ l ≤ 1000000000) (ht : 0 ≤ t ∧ t ≤ 1000000000) (c0 : W.cell? ⟨g, 0, none⟩ = some (.int .i64 l)) (c1 : W.cell? ⟨g, 1, none⟩ = some (.int .i64 t)) :
    Calls Tryd.prog 22 #[.pointer (some ⟨g, 0, none⟩)] W fun e W' => e = .returned (.string (decS l.toNat ++ ⟨#[43]⟩ ++ decS t.toNat)) ∧ Below W.heap.size W W' := by
  have HB : Hid (∀ w x, (x = l ∨ x = t) → Calls Tryd.prog 37 #[.int .i64 x] w fun e W' => e = .returned (.string (decS x.toNat)) ∧ Below w.heap.size w W') := fun w x hx => s_DecInt x (by omega) w
  have z1 := decS_size (n := l.toNat) (by omega)
  have z2 := decS_size (n := t.toNat) (by omega)
  have z3 : (⟨#[43]⟩ : ByteArray).size = 1 := rfl
  have z4 : (decS l.toNat ++ ⟨#[43]⟩).size ≤ 30 := by rw [ByteArray.size_append]; omega
  have k0 := fun dd os => cell_keep (below_regrown W dd os) c0
  have k1 := fun dd os => cell_keep (below_regrown W dd os) c1
  clear hl ht
  go_enter Tryd.func22, Tryd.ntmps22
  go_wp2_with fail
  refine wp_region_quiet_below (by kernel_rfl) (by kernel_rfl) ?_
  repeat (go_big_quiet_step ((first | (go_at_call 37; exact Calls.regrown_of (HB.out _ _ (by first | exact .inl rfl | exact .inr rfl))))))
  refine wpQuiet_nil ?_
  intro w2 hw2
  have hk := below_of_regrown hw2
  clear hw2 k0 k1
  obtain ⟨hc, hf⟩ := bcell hk
  have hz := hk.size
  try simp at hz
  go_wp2_with fail
  go_ret
  exact ⟨rfl, hk⟩

theorem s_RideText (l t : Int) (W : World) : Calls Tryd.prog 7 #[.agg #[.int .i64 l, .int .i64 t]] W fun e W' => e = .returned (.string (rideS l t)) ∧ Below W.heap.size W W' := by
  have KA := kept_alloc (Below.refl W.heap.size W) (.cells #[.int .i64 l, .int .i64 t] 25)
  have q0 : (W.alloc (.cells #[.int .i64 l, .int .i64 t] 25)).cell? ⟨W.heap.size, 0, none⟩ = some (.int .i64 l) := boxed_at rfl rfl
  have q1 : (W.alloc (.cells #[.int .i64 l, .int .i64 t] 25)).cell? ⟨W.heap.size, 1, none⟩ = some (.int .i64 t) := boxed_at rfl rfl
  have HO := Lib.hid (s_l19One l t W.heap.size 0 _ q0 q1)
  cases hv : vRide l t
  · rw [rideS_no hv]
    rw [hv] at HO
    clear hv
    go_enter Tryd.func7, Tryd.ntmps7
    go_wp2_with (go_at_call 21; refine HO.out.mono ?_; rintro e w1 ⟨rfl, dd, rfl⟩)
    go_ret
    exact ⟨rfl, kept_drewN KA _⟩
  · have hb := vRide_out hv
    rw [hv] at HO
    rw [rideS_yes hv]
    have HT := Lib.hid (fun w (hw : Below (W.alloc (.cells #[.int .i64 l, .int .i64 t] 25)).heap.size (W.alloc (.cells #[.int .i64 l, .int .i64 t] 25)) w) => s_l19Text l t W.heap.size w (by omega) (by omega) (cell_keep hw q0) (cell_keep hw q1))
    clear hv
    go_enter Tryd.func7, Tryd.ntmps7
    go_wp2_with (first | (go_at_call 21; refine HO.out.mono ?_; rintro e w1 ⟨rfl, dd, rfl⟩) | (go_at_call 22; refine (HT.out _ (kept_drewN (Below.refl _ _) _)).mono ?_; rintro e w2 ⟨rfl, hb2⟩))
    go_ret
    exact ⟨rfl, kept_trans (kept_drewN KA _) hb2⟩

theorem i_RideText (l t : Int) (W : World) (htab : Tab10 W) : Calls Tryd.prog 9 #[.agg #[.int .i64 l, .int .i64 t]] W fun e W' => e = .returned (.string (rideS l t)) ∧ Below W.heap.size W W' := by
  have KA := kept_alloc (Below.refl W.heap.size W) (.cells #[.int .i64 l, .int .i64 t] 25)
  have q0 : (W.alloc (.cells #[.int .i64 l, .int .i64 t] 25)).cell? ⟨W.heap.size, 0, none⟩ = some (.int .i64 l) := boxed_at rfl rfl
  have q1 : (W.alloc (.cells #[.int .i64 l, .int .i64 t] 25)).cell? ⟨W.heap.size, 1, none⟩ = some (.int .i64 t) := boxed_at rfl rfl
  have HO := Lib.hid (fun w => i_validRide l t w)
  have HTB := Lib.hid (htab.kept KA)
  cases hv : vRide l t
  · rw [rideS_no hv]
    rw [hv] at HO
    clear hv
    go_enter Tryd.func9, Tryd.ntmps9
    go_wp2_with (go_at_call 23; refine (HO.out _).mono ?_; rintro e w1 ⟨rfl, hb1⟩)
    go_ret
    exact ⟨rfl, kept_trans KA hb1⟩
  · have hb := vRide_out hv
    rw [hv] at HO
    rw [rideS_yes hv]
    have HD1 := Lib.hid (fun w h => i_DecInt l (by omega) w h)
    have HD2 := Lib.hid (fun w h => i_DecInt t (by omega) w h)
    have z1 := decS_size (n := l.toNat) (by omega)
    have z2 := decS_size (n := t.toNat) (by omega)
    generalize decS l.toNat = dl at *
    generalize decS t.toNat = dt at *
    have z3 : (⟨#[43]⟩ : ByteArray).size = 1 := rfl
    have z4 : (dl ++ ⟨#[43]⟩).size ≤ 30 := by rw [ByteArray.size_append]; omega
    clear hv hb
    go_enter Tryd.func9, Tryd.ntmps9
    go_upto_region 3 with (go_at_call 23; refine (HO.out _).mono ?_; rintro e w1 ⟨rfl, hb1⟩)
    have HT1 := Lib.hid (HTB.out.kept hb1)
    have k0 := fun dd os => cell_keep (below_regrown w1 dd os) (cell_keep hb1 q0)
    have k1 := fun dd os => cell_keep (below_regrown w1 dd os) (cell_keep hb1 q1)
    refine wp_region_quiet_below (by kernel_rfl) (by kernel_rfl) ?_
    repeat (go_big_quiet_step ((first | (go_at_call 24; exact Calls.regrown_of (HD1.out _ (HT1.out.kept (below_regrown _ _ _)))) | (go_at_call 24; exact Calls.regrown_of (HD2.out _ (HT1.out.kept (below_regrown _ _ _)))))))
    refine wpQuiet_nil ?_
    intro w2 hw2
    have hk := below_of_regrown hw2
    clear hw2 k0 k1
    obtain ⟨hc, hf⟩ := bcell hk
    have hz := hk.size
    try simp at hz
    go_wp2_with fail
    go_ret
    exact ⟨rfl, kept_trans (kept_trans KA hb1) hk⟩

theorem l_RideText (l t : Int) (W : World) (htab : Tab10 W) : Calls Tryd.prog 3 #[.agg #[.int .i64 l, .int .i64 t]] W (Truly W) := by
  have KA := kept_alloc (Below.refl W.heap.size W) (.cells #[.int .i64 l, .int .i64 t] 23)
  have q0 : (W.alloc (.cells #[.int .i64 l, .int .i64 t] 23)).cell? ⟨W.heap.size, 0, none⟩ = some (.int .i64 l) := boxed_at rfl rfl
  have q1 : (W.alloc (.cells #[.int .i64 l, .int .i64 t] 23)).cell? ⟨W.heap.size, 1, none⟩ = some (.int .i64 t) := boxed_at rfl rfl
  have HTB := Lib.hid (htab.kept KA)
  go_enter Tryd.func3, Tryd.ntmps3
  go_wp2_with fail
  refine (l_toRide l t _).mono ?_
  rintro e x1 ⟨rfl, hb1⟩
  go_wp2_with fail
  refine (s_RideText l t _).mono ?_
  rintro e x2 ⟨rfl, hb2⟩
  have u0 := cell_keep (kept_trans hb1 hb2) q0
  have u1 := cell_keep (kept_trans hb1 hb2) q1
  go_wp2_with fail
  refine (l_toRide l t _).mono ?_
  rintro e x3 ⟨rfl, hb3⟩
  go_wp2_with fail
  refine (i_RideText l t _ (((HTB.out.kept hb1).kept hb2).kept hb3)).mono ?_
  rintro e x4 ⟨rfl, hb4⟩
  go_wp2_with fail
  go_ret
  exact ⟨rfl, kept_trans (kept_trans (kept_trans (kept_trans KA hb1) hb2) hb3) hb4⟩

end Go.Proofs.YthmifcinlbcbjaaDoor
