/- The law FnExactUseTicket returns true for every input, and nothing that was there turns. No condition. -/
import Derived.Test.YtfnollbeeehpnaaUseI
namespace Go.Proofs.Ytfnollbeeehpnaa.lawExactUseTicket
open Go.ChangeShapes Go.WideShapes Go.ChangeAt Go.RowKit Go.Joins Go.Deep
set_option linter.unusedVariables false
set_option maxRecDepth 100000

theorem walk {H : Type} {enc : TypeId × Value → H} (W : World) (base : Nat) (args : Array Value) (ds : List (DataW H)) (p : List MemPlace) (h : Opened enc Try.f14 W base args ds p) :
    Calls Try.prog 14 args W (Truly W) := by
  have hval := h.val
  have hA := h.all
  have hlt := h.lt
  have hsz := h.sized
  clear h
  rw [Try.params14] at hA hval hsz
  obtain ⟨v0, vs0, d0, ds0, p0, q0, hargs, rfl, rfl, h0, r0⟩ := trodAll_cons hA
  obtain ⟨v1, vs1, d1, ds1, p1, q1, rfl, rfl, rfl, h1, r1⟩ := trodAll_cons r0
  obtain ⟨v2, vs2, d2, ds2, p2, q2, rfl, rfl, rfl, h2, r2⟩ := trodAll_cons r1
  obtain ⟨rfl, rfl, rfl⟩ := trodAll_nil r2
  obtain rfl : args = #[v0, v1, v2] := by cases args; simp_all
  obtain ⟨n0, f0a, f0b, f0c, f0d, hs0, hb0⟩ := open_fares (hval 0 51 v0 rfl rfl) h0 (fun x hx => hlt x (by simp [hx])) (weights_at hsz (j := 0) rfl rfl)
  obtain ⟨c10, c11, c12, y10, y11, y12, m1, rfl, rfl, rfl, z10, z11, z12⟩ := open_agg3 Try.underlying66 (by kernel_rfl) (by kernel_rfl) (hval 1 66 v1 rfl rfl) h1
  obtain ⟨a10, e10, -, wa10⟩ := DataW.trod_string Try.underlying9 z10
  simp at e10
  subst e10
  obtain ⟨a11, e11, -, wa11⟩ := DataW.trod_int Try.underlying2 z11
  simp at e11
  subst e11
  obtain ⟨a12, e12, -, wa12⟩ := DataW.trod_int Try.underlying2 z12
  simp at e12
  subst e12
  obtain ⟨a2, rfl, rfl, rfl, wa2⟩ := open_int Try.underlying2 (hval 2 2 v2 rfl rfl) h2
  exact l_UseTicket _ n0 f0a f0b f0c f0d hs0 hb0 a10 a11 a12 a2 (by unfold maxLen at wa10; omega)

theorem par : ∀ t ∈ Try.f14.params.toList, Try.prog.readableRec t = true ∧ t < Try.prog.types.size := by
  intro t ht
  rw [Try.params14] at ht
  have h : t = 51 ∨ t = 66 ∨ t = 2 := by simpa using ht
  rcases h with rfl | rfl | rfl
  all_goals exact ⟨by kernel_rfl, of_decide_eq_true (by kernel_rfl)⟩

set_option maxRecDepth 100000 in
theorem lifted (os : Os) (started : os.Started) (H : Type) (enc : TypeId × Value → H) :
    ReturnsInHanded {} Try.checked os 14 .any (Rows.fnExactUseTicketSpec.pre6 enc Try.prog Try.f14 Rows.fnExactUseTicketRow.domain false) (Rows.fnExactUseTicketSpec.post enc Try.prog Try.f14 false true false false) :=
  law_lifted started (by kernel_rfl) Try.func14
    (ChangeSpec.witness6 (enc := enc) (C := Try.checked) false ⟨#[], #[.slice none 0 0, .agg #[.string ByteArray.empty, .int .i64 0, .int .i64 0], .int .i64 0], []⟩ 8 (by kernel_rfl) (by kernel_rfl) (by kernel_rfl) (by kernel_rfl))
    rfl rfl rfl par
    (fun ds hl => by rw [Try.params14] at hl; match ds, hl with | [d0, d1, d2], _ => rfl) walk

theorem proved : Rows.FnExactUseTicketSaid :=
  OpenClaim.holds_of_wide 14 Try.f14 rfl rfl rfl rfl rfl rfl rfl ⟨rfl, rfl, rfl, rfl, rfl⟩ rfl rfl rfl rfl rfl (by kernel_rfl) Try.func14 (by kernel_rfl)
    (of_decide_eq_true (by kernel_rfl)) (by unfold Func.isWrapper; first | (rw [if_pos (by decide +kernel)]; kernel_rfl) | (rw [if_neg (by decide +kernel)]; exact ⟨rfl, rfl⟩))
    (fun os started H enc _ => lifted os started H enc)
#print axioms proved
end Go.Proofs.Ytfnollbeeehpnaa.lawExactUseTicket
