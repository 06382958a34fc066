/- What a group weighs. -/
import Derived.Test.YtfnollbeeehpnaaValid
import Derived.Test.YtfnollbeeehpnaaKLaws
namespace Go.Proofs.Ytfnollbeeehpnaa
open Go.RowKit Go.Deep
set_option linter.unusedVariables false
set_option maxRecDepth 100000

theorem i_need (s : ByteArray) (b c d : Int) (W : World) (hb : 1 ≤ b ∧ b ≤ 200) (hc : 0 ≤ c ∧ c ≤ 40) (hd : 0 ≤ d ∧ d ≤ 100000) : Calls Try.prog 66 #[.agg #[.string s, .int .i64 b, .int .i64 c, .int .i64 d]] W fun e W' => e = .returned (.agg #[.int .i64 b, .int .i64 c, .int .i64 (75 * b + 15 * c + d)]) ∧ Below W.heap.size W W' := by
  go_enter Try.func66, Try.ntmps66
  go_wp2
  refine bodyPost_ret (v := .agg #[.int .i64 b, .int .i64 c, .int .i64 (75 * b + 15 * c + d)]) (by simp [results, go_sem]) rfl ⟨rfl, (by repeat (first | assumption | exact Below.refl _ _ | refine kept_drew ?_ | refine kept_drewN ?_ _ | refine kept_alloc ?_ _ | refine kept_set ?_ ?_ _ | (simp; done) | (simp; omega) | refine kept_trans ?_ (by assumption)))⟩

theorem field_kilos (x y z : Int) (w : World) : Sem.run Try.prog (Instr.field 30 (.agg #[.int .i64 x, .int .i64 y, .int .i64 z]) 2) w = .ok (.int .i64 z) w := by
  rfl

theorem s_l17Kilos (s : ByteArray) (b c d : Int) (g o : Nat) (W : World) (hb : 1 ≤ b ∧ b ≤ 200) (hc : 0 ≤ c ∧ c ≤ 40) (hd : 0 ≤ d ∧ d ≤ 100000) (c1 : W.cell? ⟨g, o + 1, none⟩ = some (.int .i64 b)) (c2 : W.cell? ⟨g, o + 2, none⟩ = some (.int .i64 c)) (c3 : W.cell? ⟨g, o + 3, none⟩ = some (.int .i64 d)) :
    Calls Try.prog 63 #[.pointer (some ⟨g, o, none⟩)] W fun e W' => e = .returned (.int .i64 (75 * b + 15 * c + d)) ∧ Below W.heap.size W W' := by
  have e1 : IntKind.i64.wrap (b * 75) = b * 75 := IntWalk.i64_in _ (by omega)
  have e2 : IntKind.i64.wrap (c * 15) = c * 15 := IntWalk.i64_in _ (by omega)
  have e3 : IntKind.i64.wrap (b * 75 + c * 15) = b * 75 + c * 15 := IntWalk.i64_in _ (by omega)
  have e4 : IntKind.i64.wrap (b * 75 + c * 15 + d) = b * 75 + c * 15 + d := IntWalk.i64_in _ (by omega)
  have hR : Hid (75 * b + 15 * c + d = b * 75 + c * 15 + d) := by show _ = _; omega
  go_enter Try.func63, Try.ntmps63
  go_wp2_with fail
  go_quiet (fail)
  clear e1 e2 e3 e4
  go_wp2_with fail
  go_ret
  exact ⟨by rw [hR.out]; rfl, kept_drewN (Below.refl _ _) _⟩

def gk (s : ByteArray) (b c d : Int) : Int × Int := if vGr s b c d then (75 * b + 15 * c + d, 0) else (0, 1)
theorem gk_no {s : ByteArray} {b c d : Int} (h : vGr s b c d = false) : gk s b c d = (0, 1) := by unfold gk; rw [h]; rfl
theorem gk_yes {s : ByteArray} {b c d : Int} (h : vGr s b c d = true) : gk s b c d = (75 * b + 15 * c + d, 0) := by unfold gk; rw [if_pos h]

end Go.Proofs.Ytfnollbeeehpnaa
