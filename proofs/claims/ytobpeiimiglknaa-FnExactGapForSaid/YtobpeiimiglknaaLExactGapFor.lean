/- The law FnExactGapFor returns true for every input, and nothing that was there turns. No condition. -/
import Derived.Test.YtobpeiimiglknaaGapFor
namespace Go.Proofs.Ytobpeiimiglknaa.lawExactGapFor
open Go.ChangeShapes Go.WideShapes Go.ChangeAt Go.RowKit Go.Joins Go.Deep
set_option linter.unusedVariables false

theorem walk {H : Type} {enc : TypeId × Value → H} (W : World) (base : Nat) (args : Array Value) (ds : List (DataW H)) (p : List MemPlace) (h : Opened enc Try.f9 W base args ds p) :
    Calls Try.prog 9 args W (Truly W) := by
  obtain ⟨hval, hA, hlt, hsz⟩ := h
  rw [Try.params9] at hA hval hsz
  obtain ⟨v0, vs0, d0, ds0, p0, q0, hargs, rfl, rfl, h0, r0⟩ := trodAll_cons hA
  obtain ⟨v1, vs1, d1, ds1, p1, q1, rfl, rfl, rfl, h1, r1⟩ := trodAll_cons r0
  obtain ⟨rfl, rfl, rfl⟩ := trodAll_nil r1
  obtain rfl : args = #[v0, v1] := by cases args; simp_all
  obtain ⟨c00, c01, c02, c03, y00, y01, y02, y03, m0, rfl, rfl, rfl, z00, z01, z02, z03⟩ := open_agg4 Try.underlying38 (by kernel_rfl) (by kernel_rfl) (hval 0 38 v0 rfl rfl) h0
  obtain ⟨a00, e00, -, wa00⟩ := DataW.trod_int Try.underlying2 z00
  simp at e00
  subst e00
  obtain ⟨a01, e01, -, wa01⟩ := DataW.trod_int Try.underlying2 z01
  simp at e01
  subst e01
  obtain ⟨a02, e02, -, wa02⟩ := DataW.trod_int Try.underlying2 z02
  simp at e02
  subst e02
  obtain ⟨a03, e03, -, wa03⟩ := DataW.trod_int Try.underlying2 z03
  simp at e03
  subst e03
  obtain ⟨n1, f1a, hs1, hb1⟩ := open_ints (hval 1 22 v1 rfl rfl) h1 (fun x hx => hlt x (by simp [hx])) (weights_at hsz (j := 1) rfl rfl)
  exact l_GapFor a00 a01 a02 a03 _ n1 f1a hs1 hb1

theorem par : ∀ t ∈ Try.f9.params.toList, Try.prog.readableRec t = true ∧ t < Try.prog.types.size := by
  intro t ht
  rw [Try.params9] at ht
  have h : t = 38 ∨ t = 22 := by simpa using ht
  rcases h with rfl | rfl
  all_goals exact ⟨by kernel_rfl, of_decide_eq_true (by kernel_rfl)⟩

set_option maxRecDepth 100000 in
theorem lifted (os : Os) (started : os.Started) (H : Type) (enc : TypeId × Value → H) :
    ReturnsInHanded {} Try.checked os 9 .any (Rows.fnExactGapForSpec.pre6 enc Try.prog Try.f9 Rows.fnExactGapForRow.domain false) (Rows.fnExactGapForSpec.post enc Try.prog Try.f9 false true false false) :=
  law_lifted started (by kernel_rfl) Try.func9
    (ChangeSpec.witness6 (enc := enc) (C := Try.checked) false ⟨#[], #[.agg #[.int .i64 0, .int .i64 0, .int .i64 0, .int .i64 0], .slice none 0 0], []⟩ 8 (by kernel_rfl) (by kernel_rfl) (by kernel_rfl) (by kernel_rfl))
    rfl rfl rfl par
    (fun ds hl => by rw [Try.params9] at hl; match ds, hl with | [d0, d1], _ => rfl) walk

theorem proved : Rows.FnExactGapForSaid :=
  OpenClaim.holds_of_wide 9 Try.f9 rfl rfl rfl rfl rfl rfl rfl ⟨rfl, rfl, rfl, rfl, rfl⟩ rfl rfl rfl rfl rfl (by kernel_rfl) Try.func9 (by kernel_rfl)
    (of_decide_eq_true (by kernel_rfl)) (by unfold Func.isWrapper; first | (rw [if_pos (by decide +kernel)]; kernel_rfl) | (rw [if_neg (by decide +kernel)]; exact ⟨rfl, rfl⟩))
    (fun os started H enc _ => lifted os started H enc)
#print axioms proved
end Go.Proofs.Ytobpeiimiglknaa.lawExactGapFor
