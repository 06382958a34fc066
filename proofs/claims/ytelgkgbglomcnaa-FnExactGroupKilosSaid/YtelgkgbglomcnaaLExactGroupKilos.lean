/- The law FnExactGroupKilos returns true for every input, and nothing that was there turns. No condition. -/
import Derived.Test.YtelgkgbglomcnaaKilos
namespace Go.Proofs.Ytelgkgbglomcnaa.lawExactGroupKilos
open Go.ChangeShapes Go.WideShapes Go.ChangeAt Go.RowKit Go.Joins Go.Deep
set_option linter.unusedVariables false
set_option maxRecDepth 100000

theorem walk {H : Type} {enc : TypeId × Value → H} (W : World) (base : Nat) (args : Array Value) (ds : List (DataW H)) (p : List MemPlace) (h : Opened enc Try.f10 W base args ds p) :
    Calls Try.prog 10 args W (Truly W) := by
  have hval := h.val
  have hA := h.all
  have hlt := h.lt
  have hsz := h.sized
  clear h
  rw [Try.params10] at hA hval hsz
  obtain ⟨v0, vs0, d0, ds0, p0, q0, hargs, rfl, rfl, h0, r0⟩ := trodAll_cons hA
  obtain ⟨rfl, rfl, rfl⟩ := trodAll_nil r0
  obtain rfl : args = #[v0] := by cases args; simp_all
  obtain ⟨c00, c01, c02, c03, y00, y01, y02, y03, m0, rfl, rfl, rfl, z00, z01, z02, z03⟩ := open_agg4 Try.underlying49 (by kernel_rfl) (by kernel_rfl) (hval 0 49 v0 rfl rfl) h0
  obtain ⟨a00, e00, -, wa00⟩ := DataW.trod_string Try.underlying9 z00
  simp at e00
  subst e00
  obtain ⟨a01, e01, -, wa01⟩ := DataW.trod_int Try.underlying2 z01
  simp at e01
  subst e01
  obtain ⟨a02, e02, -, wa02⟩ := DataW.trod_int Try.underlying2 z02
  simp at e02
  subst e02
  obtain ⟨a03, e03, -, wa03⟩ := DataW.trod_int Try.underlying2 z03
  simp at e03
  subst e03
  exact l_GroupKilos a00 a01 a02 a03 (by unfold maxLen at wa00; omega) W

theorem par : ∀ t ∈ Try.f10.params.toList, Try.prog.readableRec t = true ∧ t < Try.prog.types.size := by
  intro t ht
  rw [Try.params10] at ht
  have h : t = 49 := by simpa using ht
  subst h
  exact ⟨by kernel_rfl, of_decide_eq_true (by kernel_rfl)⟩

set_option maxRecDepth 100000 in
theorem lifted (os : Os) (started : os.Started) (H : Type) (enc : TypeId × Value → H) :
    ReturnsInHanded {} Try.checked os 10 .any (Rows.fnExactGroupKilosSpec.pre6 enc Try.prog Try.f10 Rows.fnExactGroupKilosRow.domain false) (Rows.fnExactGroupKilosSpec.post enc Try.prog Try.f10 false true false false) :=
  law_lifted started (by kernel_rfl) Try.func10
    (ChangeSpec.witness6 (enc := enc) (C := Try.checked) false ⟨#[], #[.agg #[.string ByteArray.empty, .int .i64 0, .int .i64 0, .int .i64 0]], []⟩ 8 (by kernel_rfl) (by kernel_rfl) (by kernel_rfl) (by kernel_rfl))
    rfl rfl rfl par
    (fun ds hl => by rw [Try.params10] at hl; match ds, hl with | [d0], _ => rfl) walk

theorem proved : Rows.FnExactGroupKilosSaid :=
  OpenClaim.holds_of_wide 10 Try.f10 rfl rfl rfl rfl rfl rfl rfl ⟨rfl, rfl, rfl, rfl, rfl⟩ rfl rfl rfl rfl rfl (by kernel_rfl) Try.func10 (by kernel_rfl)
    (of_decide_eq_true (by kernel_rfl)) (by unfold Func.isWrapper; first | (rw [if_pos (by decide +kernel)]; kernel_rfl) | (rw [if_neg (by decide +kernel)]; exact ⟨rfl, rfl⟩))
    (fun os started H enc _ => lifted os started H enc)
#print axioms proved
end Go.Proofs.Ytelgkgbglomcnaa.lawExactGroupKilos
