/- The law FnExactAddRide returns true for every input, and nothing that was there turns. No condition. -/
import Derived.Test.YtcbceodlakbpdaaAddL
namespace Go.Proofs.Ytcbceodlakbpdaa.lawExactAddRide
open Go.ChangeShapes Go.WideShapes Go.ChangeAt Go.RowKit Go.Joins Go.Deep
set_option linter.unusedVariables false
set_option maxRecDepth 100000

theorem walk {H : Type} {enc : TypeId × Value → H} (W : World) (base : Nat) (args : Array Value) (ds : List (DataW H)) (p : List MemPlace) (h : Opened enc Try.f10 W base args ds p) :
    Calls Try.prog 10 args W (Truly W) := by
  have hval := h.val
  have hA := h.all
  have hlt := h.lt
  have hsz := h.sized
  clear h
  rw [Try.params10] at hA hval hsz
  obtain ⟨v0, vs0, d0, ds0, p0, q0, hargs, rfl, rfl, h0, r0⟩ := trodAll_cons hA
  obtain ⟨v1, vs1, d1, ds1, p1, q1, rfl, rfl, rfl, h1, r1⟩ := trodAll_cons r0
  obtain ⟨v2, vs2, d2, ds2, p2, q2, rfl, rfl, rfl, h2, r2⟩ := trodAll_cons r1
  obtain ⟨rfl, rfl, rfl⟩ := trodAll_nil r2
  obtain rfl : args = #[v0, v1, v2] := by cases args; simp_all
  obtain ⟨n0, f0a, f0b, hs0, hb0⟩ := open_rides (hval 0 22 v0 rfl rfl) h0 (fun x hx => hlt x (by simp [hx])) (weights_at hsz (j := 0) rfl rfl)
  obtain ⟨c10, c11, y10, y11, m1, rfl, rfl, rfl, z10, z11⟩ := open_agg2 Try.underlying45 (by kernel_rfl) (by kernel_rfl) (hval 1 45 v1 rfl rfl) h1
  obtain ⟨a10, e10, -, wa10⟩ := DataW.trod_int Try.underlying2 z10
  simp at e10
  subst e10
  obtain ⟨a11, e11, -, wa11⟩ := DataW.trod_int Try.underlying2 z11
  simp at e11
  subst e11
  obtain ⟨a2, rfl, rfl, rfl, wa2⟩ := open_int Try.underlying2 (hval 2 2 v2 rfl rfl) h2
  exact l_AddRide _ n0 f0a f0b hs0 hb0 a10 a11 a2

theorem par : ∀ t ∈ Try.f10.params.toList, Try.prog.readableRec t = true ∧ t < Try.prog.types.size := by
  intro t ht
  rw [Try.params10] at ht
  have h : t = 22 ∨ t = 45 ∨ t = 2 := by simpa using ht
  rcases h with rfl | rfl | rfl
  all_goals exact ⟨by kernel_rfl, of_decide_eq_true (by kernel_rfl)⟩

set_option maxRecDepth 100000 in
theorem lifted (os : Os) (started : os.Started) (H : Type) (enc : TypeId × Value → H) :
    ReturnsInHanded {} Try.checked os 10 .any (Rows.fnExactAddRideSpec.pre6 enc Try.prog Try.f10 Rows.fnExactAddRideRow.domain false) (Rows.fnExactAddRideSpec.post enc Try.prog Try.f10 false true false false) :=
  law_lifted started (by kernel_rfl) Try.func10
    (ChangeSpec.witness6 (enc := enc) (C := Try.checked) false ⟨#[], #[.slice none 0 0, .agg #[.int .i64 0, .int .i64 0], .int .i64 0], []⟩ 8 (by kernel_rfl) (by kernel_rfl) (by kernel_rfl) (by kernel_rfl))
    rfl rfl rfl par
    (fun ds hl => by rw [Try.params10] at hl; match ds, hl with | [d0, d1, d2], _ => rfl) walk

theorem proved : Rows.FnExactAddRideSaid :=
  OpenClaim.holds_of_wide 10 Try.f10 rfl rfl rfl rfl rfl rfl rfl ⟨rfl, rfl, rfl, rfl, rfl⟩ rfl rfl rfl rfl rfl (by kernel_rfl) Try.func10 (by kernel_rfl)
    (of_decide_eq_true (by kernel_rfl)) (by unfold Func.isWrapper; first | (rw [if_pos (by decide +kernel)]; kernel_rfl) | (rw [if_neg (by decide +kernel)]; exact ⟨rfl, rfl⟩))
    (fun os started H enc _ => lifted os started H enc)
#print axioms proved
end Go.Proofs.Ytcbceodlakbpdaa.lawExactAddRide
