/- The law FnExactFitsCar returns true for every input, and nothing that was there turns. No condition. -/
import Derived.Test.YtfnollbeeehpnaaFitsI
namespace Go.Proofs.Ytfnollbeeehpnaa.lawExactFitsCar
open Go.ChangeShapes Go.WideShapes Go.ChangeAt Go.RowKit Go.Joins Go.Deep
set_option linter.unusedVariables false
set_option maxRecDepth 100000

theorem walk {H : Type} {enc : TypeId × Value → H} (W : World) (base : Nat) (args : Array Value) (ds : List (DataW H)) (p : List MemPlace) (h : Opened enc Try.f5 W base args ds p) :
    Calls Try.prog 5 args W (Truly W) := by
  have hval := h.val
  have hA := h.all
  have hlt := h.lt
  have hsz := h.sized
  clear h
  rw [Try.params5] at hA hval hsz
  obtain ⟨v0, vs0, d0, ds0, p0, q0, hargs, rfl, rfl, h0, r0⟩ := trodAll_cons hA
  obtain ⟨v1, vs1, d1, ds1, p1, q1, rfl, rfl, rfl, h1, r1⟩ := trodAll_cons r0
  obtain ⟨v2, vs2, d2, ds2, p2, q2, rfl, rfl, rfl, h2, r2⟩ := trodAll_cons r1
  obtain ⟨rfl, rfl, rfl⟩ := trodAll_nil r2
  obtain rfl : args = #[v0, v1, v2] := by cases args; simp_all
  obtain ⟨n0, f0a, f0b, f0c, f0d, hs0, hb0⟩ := open_groups (hval 0 22 v0 rfl rfl) h0 (fun x hx => hlt x (by simp [hx])) (weights_at hsz (j := 0) rfl rfl)
  obtain ⟨n1, f1a, hs1, hb1⟩ := open_ints (hval 1 34 v1 rfl rfl) h1 (fun x hx => hlt x (by simp [hx])) (weights_at hsz (j := 1) rfl rfl)
  obtain ⟨c20, c21, c22, y20, y21, y22, m2, rfl, rfl, rfl, z20, z21, z22⟩ := open_agg3 Try.underlying35 (by kernel_rfl) (by kernel_rfl) (hval 2 35 v2 rfl rfl) h2
  obtain ⟨a20, e20, -, wa20⟩ := DataW.trod_int Try.underlying2 z20
  simp at e20
  subst e20
  obtain ⟨a21, e21, -, wa21⟩ := DataW.trod_int Try.underlying2 z21
  simp at e21
  subst e21
  obtain ⟨a22, e22, -, wa22⟩ := DataW.trod_int Try.underlying2 z22
  simp at e22
  subst e22
  exact l_FitsCar _ n0 f0a f0b f0c f0d hs0 hb0 _ n1 f1a hs1 a20 a21 a22

theorem par : ∀ t ∈ Try.f5.params.toList, Try.prog.readableRec t = true ∧ t < Try.prog.types.size := by
  intro t ht
  rw [Try.params5] at ht
  have h : t = 22 ∨ t = 34 ∨ t = 35 := by simpa using ht
  rcases h with rfl | rfl | rfl
  all_goals exact ⟨by kernel_rfl, of_decide_eq_true (by kernel_rfl)⟩

set_option maxRecDepth 100000 in
theorem lifted (os : Os) (started : os.Started) (H : Type) (enc : TypeId × Value → H) :
    ReturnsInHanded {} Try.checked os 5 .any (Rows.fnExactFitsCarSpec.pre6 enc Try.prog Try.f5 Rows.fnExactFitsCarRow.domain false) (Rows.fnExactFitsCarSpec.post enc Try.prog Try.f5 false true false false) :=
  law_lifted started (by kernel_rfl) Try.func5
    (ChangeSpec.witness6 (enc := enc) (C := Try.checked) false ⟨#[], #[.slice none 0 0, .slice none 0 0, .agg #[.int .i64 0, .int .i64 0, .int .i64 0]], []⟩ 8 (by kernel_rfl) (by kernel_rfl) (by kernel_rfl) (by kernel_rfl))
    rfl rfl rfl par
    (fun ds hl => by rw [Try.params5] at hl; match ds, hl with | [d0, d1, d2], _ => rfl) walk

theorem proved : Rows.FnExactFitsCarSaid :=
  OpenClaim.holds_of_wide 5 Try.f5 rfl rfl rfl rfl rfl rfl rfl ⟨rfl, rfl, rfl, rfl, rfl⟩ rfl rfl rfl rfl rfl (by kernel_rfl) Try.func5 (by kernel_rfl)
    (of_decide_eq_true (by kernel_rfl)) (by unfold Func.isWrapper; first | (rw [if_pos (by decide +kernel)]; kernel_rfl) | (rw [if_neg (by decide +kernel)]; exact ⟨rfl, rfl⟩))
    (fun os started H enc _ => lifted os started H enc)
#print axioms proved
end Go.Proofs.Ytfnollbeeehpnaa.lawExactFitsCar
