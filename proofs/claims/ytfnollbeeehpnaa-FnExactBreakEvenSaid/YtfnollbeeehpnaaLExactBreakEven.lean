/- The law FnExactBreakEven returns true for every input, and nothing that was there turns. No condition. -/
import Derived.Test.YtfnollbeeehpnaaBreakL
import Derived.Test.YtfnollbeeehpnaaStr
namespace Go.Proofs.Ytfnollbeeehpnaa.lawExactBreakEven
open Go.ChangeShapes Go.WideShapes Go.ChangeAt Go.RowKit Go.Joins Go.Deep
set_option linter.unusedVariables false
set_option maxRecDepth 100000

theorem walk {H : Type} {enc : TypeId × Value → H} (W : World) (base : Nat) (args : Array Value) (ds : List (DataW H)) (p : List MemPlace) (h : Opened enc Try.f11 W base args ds p) :
    Calls Try.prog 11 args W (Truly W) := by
  have hval := h.val
  have hA := h.all
  have hlt := h.lt
  have hsz := h.sized
  clear h
  rw [Try.params11] at hA hval hsz
  obtain ⟨v0, vs0, d0, ds0, p0, q0, hargs, rfl, rfl, h0, r0⟩ := trodAll_cons hA
  obtain ⟨v1, vs1, d1, ds1, p1, q1, rfl, rfl, rfl, h1, r1⟩ := trodAll_cons r0
  obtain ⟨v2, vs2, d2, ds2, p2, q2, rfl, rfl, rfl, h2, r2⟩ := trodAll_cons r1
  obtain ⟨rfl, rfl, rfl⟩ := trodAll_nil r2
  obtain rfl : args = #[v0, v1, v2] := by cases args; simp_all
  obtain ⟨n0, f0a, f0b, f0c, f0d, hs0, hb0⟩ := open_fares (hval 0 51 v0 rfl rfl) h0 (fun x hx => hlt x (by simp [hx])) (weights_at hsz (j := 0) rfl rfl)
  obtain ⟨s1, rfl, rfl, rfl, ws1⟩ := open_str Try.underlying9 (hval 1 9 v1 rfl rfl) h1 (weights_at hsz (j := 1) rfl rfl)
  obtain ⟨s2, rfl, rfl, rfl, ws2⟩ := open_str Try.underlying9 (hval 2 9 v2 rfl rfl) h2 (weights_at hsz (j := 2) rfl rfl)
  exact l_BreakEven _ n0 f0a f0b f0c f0d hs0 hb0 s1 ws1 s2 ws2

theorem par : ∀ t ∈ Try.f11.params.toList, Try.prog.readableRec t = true ∧ t < Try.prog.types.size := by
  intro t ht
  rw [Try.params11] at ht
  have h : t = 51 ∨ t = 9 := by simpa using ht
  rcases h with rfl | rfl
  all_goals exact ⟨by kernel_rfl, of_decide_eq_true (by kernel_rfl)⟩

set_option maxRecDepth 100000 in
theorem lifted (os : Os) (started : os.Started) (H : Type) (enc : TypeId × Value → H) :
    ReturnsInHanded {} Try.checked os 11 .any (Rows.fnExactBreakEvenSpec.pre6 enc Try.prog Try.f11 Rows.fnExactBreakEvenRow.domain false) (Rows.fnExactBreakEvenSpec.post enc Try.prog Try.f11 false true false false) :=
  law_lifted started (by kernel_rfl) Try.func11
    (ChangeSpec.witness6 (enc := enc) (C := Try.checked) false ⟨#[], #[.slice none 0 0, .string ByteArray.empty, .string ByteArray.empty], []⟩ 8 (by kernel_rfl) (by kernel_rfl) (by kernel_rfl) (by kernel_rfl))
    rfl rfl rfl par
    (fun ds hl => by rw [Try.params11] at hl; match ds, hl with | [d0, d1, d2], _ => rfl) walk

theorem proved : Rows.FnExactBreakEvenSaid :=
  OpenClaim.holds_of_wide 11 Try.f11 rfl rfl rfl rfl rfl rfl rfl ⟨rfl, rfl, rfl, rfl, rfl⟩ rfl rfl rfl rfl rfl (by kernel_rfl) Try.func11 (by kernel_rfl)
    (of_decide_eq_true (by kernel_rfl)) (by unfold Func.isWrapper; first | (rw [if_pos (by decide +kernel)]; kernel_rfl) | (rw [if_neg (by decide +kernel)]; exact ⟨rfl, rfl⟩))
    (fun os started H enc _ => lifted os started H enc)
#print axioms proved
end Go.Proofs.Ytfnollbeeehpnaa.lawExactBreakEven
