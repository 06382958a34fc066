/- The law FnExactValidRoom returns true at every room, and nothing old turns. No condition. -/
import Derived.Test.YtelgkgbglomcnaaBase
namespace Go.Proofs.Ytelgkgbglomcnaa.lawValidRoom
open Go.ChangeShapes Go.WideShapes Go.ChangeAt Go.RowKit Go.Joins Go.Deep

theorem cellsT : Try.prog.cellsOf 23 = 3 := by kernel_rfl

theorem walk {H : Type} {enc : TypeId × Value → H} (W : World) (base : Nat) (args : Array Value) (ds : List (DataW H)) (p : List MemPlace) (h : Opened enc Try.f3 W base args ds p) :
    Calls Try.prog 3 args W (Truly W) := by
  obtain ⟨hval, hA, hlt, hsz⟩ := h
  rw [Try.params3] at hA hval
  obtain ⟨v0, d0, rfl, rfl, h0⟩ := trodAll_one hA
  obtain ⟨c0, c1, c2, y0, y1, y2, m, rfl, rfl, rfl, z0, z1, z2⟩ := open_agg3 Try.underlying23 (by kernel_rfl) cellsT (hval 0 23 v0 rfl rfl) h0
  obtain ⟨a0, e0, -, -⟩ := DataW.trod_int Try.underlying2 z0
  obtain ⟨a1, e1, -, -⟩ := DataW.trod_int Try.underlying2 z1
  obtain ⟨a2, e2, -, -⟩ := DataW.trod_int Try.underlying2 z2
  simp at e0 e1 e2
  subst e0 e1 e2
  exact lValidRoom_any _ _ _ _

set_option maxRecDepth 100000 in
theorem lifted (os : Os) (started : os.Started) (H : Type) (enc : TypeId × Value → H) :
    ReturnsInHanded {} Try.checked os 3 .any (Rows.fnExactValidRoomSpec.pre6 enc Try.prog Try.f3 Rows.fnExactValidRoomRow.domain false) (Rows.fnExactValidRoomSpec.post enc Try.prog Try.f3 false true false false) :=
  law_lifted started (by kernel_rfl) Try.func3
    (ChangeSpec.witness6 (enc := enc) (C := Try.checked) false ⟨#[], #[.agg #[.int .i64 0, .int .i64 0, .int .i64 0]], []⟩ 8 (by kernel_rfl) (by kernel_rfl) (by kernel_rfl) (by kernel_rfl))
    rfl rfl rfl (by intro t ht; rw [Try.params3] at ht; simp at ht; subst ht; exact ⟨by kernel_rfl, of_decide_eq_true (by kernel_rfl)⟩)
    (fun ds hl => by rw [Try.params3] at hl; match ds, hl with | [d], _ => rfl) walk

theorem proved : Rows.FnExactValidRoomSaid :=
  OpenClaim.holds_of_wide 3 Try.f3 rfl rfl rfl rfl rfl rfl rfl ⟨rfl, rfl, rfl, rfl, rfl⟩ rfl rfl rfl rfl rfl (by kernel_rfl) Try.func3 (by kernel_rfl)
    (of_decide_eq_true (by kernel_rfl)) (by unfold Func.isWrapper; first | (rw [if_pos (by decide +kernel)]; kernel_rfl) | (rw [if_neg (by decide +kernel)]; exact ⟨rfl, rfl⟩))
    (fun os started H enc _ => lifted os started H enc)
#print axioms proved
end Go.Proofs.Ytelgkgbglomcnaa.lawValidRoom
