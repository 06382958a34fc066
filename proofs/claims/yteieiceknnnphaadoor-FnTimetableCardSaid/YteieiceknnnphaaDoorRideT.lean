/- The text of a ride: the reference, the program, the law. -/
import Derived.Test.YteieiceknnnphaaDoorDec
import Derived.Test.YteieiceknnnphaaDoorTable
import Derived.Deep.DeepCutAuto
import Derived.Deep.RegionHeld3
namespace Go.Proofs.YteieiceknnnphaaDoor
open Go.RowKit Go.Deep
set_option linter.unusedVariables false
set_option maxRecDepth 100000

def rideS (l t : Int) : ByteArray := if vRide l t = true then decS l.toNat ++ ⟨#[43]⟩ ++ decS t.toNat else ⟨#[]⟩
theorem rideS_no {l t : Int} (h : vRide l t = false) : rideS l t = ⟨#[]⟩ := by unfold rideS; rw [if_neg (by rw [h]; simp)]
theorem rideS_yes {l t : Int} (h : vRide l t = true) : rideS l t = decS l.toNat ++ ⟨#[43]⟩ ++ decS t.toNat := by unfold rideS; rw [if_pos h]
attribute [irreducible] rideS

theorem i_RideText (l t : Int) (W : World) (htab : Tab10 W) : Calls Tryd.prog 10 #[.agg #[.int .i64 l, .int .i64 t]] W fun e W' => e = .returned (.string (rideS l t)) ∧ Below W.heap.size W W' := by
  have KA := kept_alloc (Below.refl W.heap.size W) (.cells #[.int .i64 l, .int .i64 t] 32)
  have q0 : (W.alloc (.cells #[.int .i64 l, .int .i64 t] 32)).cell? ⟨W.heap.size, 0, none⟩ = some (.int .i64 l) := boxed_at rfl rfl
  have q1 : (W.alloc (.cells #[.int .i64 l, .int .i64 t] 32)).cell? ⟨W.heap.size, 1, none⟩ = some (.int .i64 t) := boxed_at rfl rfl
  have HO := Lib.hid (fun w => i_validRide l t w)
  have HTB := Lib.hid (htab.kept KA)
  cases hv : vRide l t
  · rw [rideS_no hv]
    rw [hv] at HO
    clear hv
    go_enter Tryd.func10, Tryd.ntmps10
    go_wp2_with (go_at_call 22; refine (HO.out _).mono ?_; rintro e w1 ⟨rfl, hb1⟩)
    go_ret
    exact ⟨rfl, kept_trans KA hb1⟩
  · have hb := vRide_out hv
    rw [hv] at HO
    rw [rideS_yes hv]
    have HD1 := Lib.hid (fun w h => i_DecInt l (by omega) w h)
    have HD2 := Lib.hid (fun w h => i_DecInt t (by omega) w h)
    have z1 := decS_size (n := l.toNat) (by omega)
    have z2 := decS_size (n := t.toNat) (by omega)
    generalize decS l.toNat = dl at *
    generalize decS t.toNat = dt at *
    have z3 : (⟨#[43]⟩ : ByteArray).size = 1 := rfl
    have z4 : (dl ++ ⟨#[43]⟩).size ≤ 30 := by rw [ByteArray.size_append]; omega
    clear hv hb
    go_enter Tryd.func10, Tryd.ntmps10
    go_upto_region 3 with (go_at_call 22; refine (HO.out _).mono ?_; rintro e w1 ⟨rfl, hb1⟩)
    have HT1 := Lib.hid (HTB.out.kept hb1)
    have k0 := fun dd os => cell_keep (below_regrown w1 dd os) (cell_keep hb1 q0)
    have k1 := fun dd os => cell_keep (below_regrown w1 dd os) (cell_keep hb1 q1)
    refine wp_region_quiet_below (by kernel_rfl) (by kernel_rfl) ?_
    repeat (go_big_quiet_step ((first | (go_at_call 25; exact Calls.regrown_of (HD1.out _ (HT1.out.kept (below_regrown _ _ _)))) | (go_at_call 25; exact Calls.regrown_of (HD2.out _ (HT1.out.kept (below_regrown _ _ _)))))))
    refine wpQuiet_nil ?_
    intro w2 hw2
    have hk := below_of_regrown hw2
    clear hw2 k0 k1
    obtain ⟨hc, hf⟩ := bcell hk
    have hz := hk.size
    try simp at hz
    go_wp2_with fail
    go_ret
    exact ⟨rfl, kept_trans (kept_trans KA hb1) hk⟩

end Go.Proofs.YteieiceknnnphaaDoor
