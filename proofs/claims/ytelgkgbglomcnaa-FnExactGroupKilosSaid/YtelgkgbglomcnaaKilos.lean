/- What a group weighs. -/
import Derived.Test.YtelgkgbglomcnaaValid
import Derived.Test.YtelgkgbglomcnaaKLaws
namespace Go.Proofs.Ytelgkgbglomcnaa
open Go.RowKit Go.Deep
set_option linter.unusedVariables false
set_option maxRecDepth 100000

theorem i_need (s : ByteArray) (b c d : Int) (W : World) (hb : 1 ≤ b ∧ b ≤ 200) (hc : 0 ≤ c ∧ c ≤ 40) (hd : 0 ≤ d ∧ d ≤ 100000) : Calls Try.prog 75 #[.agg #[.string s, .int .i64 b, .int .i64 c, .int .i64 d]] W fun e W' => e = .returned (.agg #[.int .i64 b, .int .i64 c, .int .i64 (75 * b + 15 * c + d)]) ∧ Below W.heap.size W W' := by
  go_enter Try.func75, Try.ntmps75
  go_wp2
  refine bodyPost_ret (v := .agg #[.int .i64 b, .int .i64 c, .int .i64 (75 * b + 15 * c + d)]) (by simp [results, go_sem]) rfl ⟨rfl, (by repeat (first | assumption | exact Below.refl _ _ | refine kept_drew ?_ | refine kept_drewN ?_ _ | refine kept_alloc ?_ _ | refine kept_set ?_ ?_ _ | (simp; done) | (simp; omega) | refine kept_trans ?_ (by assumption)))⟩

theorem field_kilos (x y z : Int) (w : World) : Sem.run Try.prog (Instr.field 25 (.agg #[.int .i64 x, .int .i64 y, .int .i64 z]) 2) w = .ok (.int .i64 z) w := by
  rfl

theorem s_l17Kilos (s : ByteArray) (b c d : Int) (g o : Nat) (W : World) (hb : 1 ≤ b ∧ b ≤ 200) (hc : 0 ≤ c ∧ c ≤ 40) (hd : 0 ≤ d ∧ d ≤ 100000) (c1 : W.cell? ⟨g, o + 1, none⟩ = some (.int .i64 b)) (c2 : W.cell? ⟨g, o + 2, none⟩ = some (.int .i64 c)) (c3 : W.cell? ⟨g, o + 3, none⟩ = some (.int .i64 d)) :
    Calls Try.prog 73 #[.pointer (some ⟨g, o, none⟩)] W fun e W' => e = .returned (.int .i64 (75 * b + 15 * c + d)) ∧ Below W.heap.size W W' := by
  have e1 : IntKind.i64.wrap (b * 75) = b * 75 := IntWalk.i64_in _ (by omega)
  have e2 : IntKind.i64.wrap (c * 15) = c * 15 := IntWalk.i64_in _ (by omega)
  have e3 : IntKind.i64.wrap (b * 75 + c * 15) = b * 75 + c * 15 := IntWalk.i64_in _ (by omega)
  have e4 : IntKind.i64.wrap (b * 75 + c * 15 + d) = b * 75 + c * 15 + d := IntWalk.i64_in _ (by omega)
  have hR : Hid (75 * b + 15 * c + d = b * 75 + c * 15 + d) := by show _ = _; omega
  go_enter Try.func73, Try.ntmps73
  go_wp2_with fail
  go_quiet (fail)
  clear e1 e2 e3 e4
  go_wp2_with fail
  go_ret
  exact ⟨by rw [hR.out]; rfl, kept_drewN (Below.refl _ _) _⟩

def gk (s : ByteArray) (b c d : Int) : Int × Int := if vGr s b c d then (75 * b + 15 * c + d, 0) else (0, 1)
theorem gk_no {s : ByteArray} {b c d : Int} (h : vGr s b c d = false) : gk s b c d = (0, 1) := by unfold gk; rw [h]; rfl
theorem gk_yes {s : ByteArray} {b c d : Int} (h : vGr s b c d = true) : gk s b c d = (75 * b + 15 * c + d, 0) := by unfold gk; rw [if_pos h]

theorem i_GroupKilos (s : ByteArray) (b c d : Int) (W : World) (hs : (s.size : Int) ≤ 1048576) : Calls Try.prog 35 #[.agg #[.string s, .int .i64 b, .int .i64 c, .int .i64 d]] W fun e W' => e = .returned (.tuple #[.int .i64 (gk s b c d).1, .int .i64 (gk s b c d).2]) ∧ Below W.heap.size W W' := by
  have Q0 : Hid ((W.alloc (.cells #[.string s, .int .i64 b, .int .i64 c, .int .i64 d] 52)).cell? ⟨W.heap.size, 0, none⟩ = some (.string s)) := boxed_at rfl rfl
  have Q1 : Hid ((W.alloc (.cells #[.string s, .int .i64 b, .int .i64 c, .int .i64 d] 52)).cell? ⟨W.heap.size, 1, none⟩ = some (.int .i64 b)) := boxed_at rfl rfl
  have Q2 : Hid ((W.alloc (.cells #[.string s, .int .i64 b, .int .i64 c, .int .i64 d] 52)).cell? ⟨W.heap.size, 2, none⟩ = some (.int .i64 c)) := boxed_at rfl rfl
  have Q3 : Hid ((W.alloc (.cells #[.string s, .int .i64 b, .int .i64 c, .int .i64 d] 52)).cell? ⟨W.heap.size, 3, none⟩ = some (.int .i64 d)) := boxed_at rfl rfl
  have HV := Lib.hid (fun w => i_validGroup s b c d w hs)
  cases hv : vGr s b c d
  · have hR := Lib.hid (gk_no hv)
    rw [hv] at HV
    go_enter Try.func35, Try.ntmps35
    go_wp2_with (go_at_call 74; refine (HV.out _).mono ?_; rintro e w1 ⟨rfl, hb1⟩)
    go_ret2
    exact ⟨by rw [hR.out]; rfl, kept_trans (kept_alloc (Below.refl _ _) _) hb1⟩
  · have hR := Lib.hid (gk_yes hv)
    obtain ⟨-, hb, hc, hd⟩ := vGr_out hv
    have HN := Lib.hid (fun w => i_need s b c d w hb hc hd)
    have hfk := fun w => field_kilos b c (75 * b + 15 * c + d) w
    rw [hv] at HV
    go_enter Try.func35, Try.ntmps35
    go_wp2_with (first | (go_at_call 74; refine (HV.out _).mono ?_; rintro e w1 ⟨rfl, hb1⟩; have q0 := cell_keep hb1 Q0.out; have q1 := cell_keep hb1 Q1.out; have q2 := cell_keep hb1 Q2.out; have q3 := cell_keep hb1 Q3.out) | (go_at_call 75; refine (HN.out _).mono ?_; rintro e w2 ⟨rfl, hb2⟩))
    go_ret2
    exact ⟨by rw [hR.out]; rfl, kept_trans (kept_trans (kept_alloc (Below.refl _ _) _) hb1) hb2⟩

theorem s_GroupKilos (s : ByteArray) (b c d : Int) (W : World) (hs : (s.size : Int) ≤ 1048576) : Calls Try.prog 33 #[.agg #[.string s, .int .i64 b, .int .i64 c, .int .i64 d]] W fun e W' => e = .returned (.tuple #[.int .i64 (gk s b c d).1, .int .i64 (gk s b c d).2]) ∧ Below W.heap.size W W' := by
  have Q0 : (W.alloc (.cells #[.string s, .int .i64 b, .int .i64 c, .int .i64 d] 52)).cell? ⟨W.heap.size, 0, none⟩ = some (.string s) := boxed_at rfl rfl
  have Q1 : (W.alloc (.cells #[.string s, .int .i64 b, .int .i64 c, .int .i64 d] 52)).cell? ⟨W.heap.size, 0 + 1, none⟩ = some (.int .i64 b) := boxed_at rfl rfl
  have Q2 : (W.alloc (.cells #[.string s, .int .i64 b, .int .i64 c, .int .i64 d] 52)).cell? ⟨W.heap.size, 0 + 2, none⟩ = some (.int .i64 c) := boxed_at rfl rfl
  have Q3 : (W.alloc (.cells #[.string s, .int .i64 b, .int .i64 c, .int .i64 d] 52)).cell? ⟨W.heap.size, 0 + 3, none⟩ = some (.int .i64 d) := boxed_at rfl rfl
  have HV := Lib.hid (s_oneGroup s b c d _ 0 _ hs Q0 Q1 Q2 Q3)
  cases hv : vGr s b c d
  · have hR := Lib.hid (gk_no hv)
    rw [hv] at HV
    clear Q0 Q1 Q2 Q3
    go_enter Try.func33, Try.ntmps33
    go_wp2_with (go_at_call 72; refine HV.out.mono ?_; rintro e w' ⟨rfl, rfl⟩)
    go_ret2
    exact ⟨by rw [hR.out]; rfl, (by repeat (first | assumption | exact Below.refl _ _ | refine kept_drew ?_ | refine kept_drewN ?_ _ | refine kept_alloc ?_ _ | refine kept_set ?_ ?_ _ | (simp; done) | (simp; omega) | refine kept_trans ?_ (by assumption)))⟩
  · have hR := Lib.hid (gk_yes hv)
    obtain ⟨-, hb, hc, hd⟩ := vGr_out hv
    have HN := Lib.hid (s_l17Kilos s b c d _ 0 _ hb hc hd Q1 Q2 Q3)
    rw [hv] at HV
    clear Q0 Q1 Q2 Q3
    go_enter Try.func33, Try.ntmps33
    go_wp2_with (first | (go_at_call 72; refine HV.out.mono ?_; rintro e w' ⟨rfl, rfl⟩) | (go_at_call 73; refine HN.out.mono ?_; rintro e w2 ⟨rfl, hb2⟩))
    go_ret2
    exact ⟨by rw [hR.out]; rfl, kept_trans (kept_alloc (Below.refl _ _) _) hb2⟩

theorem l_GroupKilos (s : ByteArray) (b c d : Int) (hs : (s.size : Int) ≤ 9223372036854775807) (W : World) : Calls Try.prog 10 #[.agg #[.string s, .int .i64 b, .int .i64 c, .int .i64 d]] W (Truly W) :=
  l_GroupKilos_of s b c d hs _ _ (fun w hl => s_GroupKilos s b c d w hl) (fun w hl => i_GroupKilos s b c d w hl)

end Go.Proofs.Ytelgkgbglomcnaa
