/- Tickets: whether one is as it has to be. -/
import Derived.Test.YtjoomijbbiageaaDoorValid
import Derived.Test.YtjoomijbbiageaaDoorAggs
namespace Go.Proofs.YtjoomijbbiageaaDoor
open Go.RowKit Go.Deep
set_option linter.unusedVariables false
set_option maxRecDepth 100000

def vTk (s : ByteArray) (b u : Int) : Bool := isName s && inB b 0 36524 && inB u 0 1000
theorem vTk_out {s : ByteArray} {b u : Int} (h : vTk s b u = true) : isName s = true ∧ (0 ≤ b ∧ b ≤ 36524) ∧ (0 ≤ u ∧ u ≤ 1000) := by
  simp only [vTk, Bool.and_eq_true, inB_iff] at h
  exact ⟨h.1.1, h.1.2, h.2⟩
theorem vTk_cases (s : ByteArray) (b u : Int) : (isName s = false ∧ Hid (vTk s b u = false)) ∨ (isName s = true ∧ inB b 0 36524 = false ∧ Hid (vTk s b u = false)) ∨ (isName s = true ∧ inB b 0 36524 = true ∧ Hid (vTk s b u = inB u 0 1000)) := by
  have key : vTk s b u = (isName s && inB b 0 36524 && inB u 0 1000) := rfl
  cases h1 : isName s
  · exact .inl ⟨rfl, by rw [h1] at key; exact key⟩
  · cases h2 : inB b 0 36524
    · exact .inr (.inl ⟨rfl, rfl, by rw [h1, h2] at key; exact key⟩)
    · exact .inr (.inr ⟨rfl, rfl, by rw [h1, h2] at key; exact key⟩)
attribute [irreducible] vTk

theorem i_isTicket (s : ByteArray) (b u : Int) (W : World) (hs : (s.size : Int) ≤ 1048576) : Calls Tryd.prog 10 #[.agg #[.string s, .int .i64 b, .int .i64 u]] W fun e W' => e = .returned (.bool (vTk s b u)) ∧ Below W.heap.size W W' := by
  have Q1 : Hid ((W.alloc (.cells #[.string s, .int .i64 b, .int .i64 u] 26)).cell? ⟨W.heap.size, 1, none⟩ = some (.int .i64 b)) := boxed_at rfl rfl
  have Q2 : Hid ((W.alloc (.cells #[.string s, .int .i64 b, .int .i64 u] 26)).cell? ⟨W.heap.size, 2, none⟩ = some (.int .i64 u)) := boxed_at rfl rfl
  have HN := Lib.hid (fun w => i_IsName s w (by omega))
  rcases vTk_cases s b u with ⟨h1, HV⟩ | ⟨h1, h2, HV⟩ | ⟨h1, h2, HV⟩
  all_goals
    rw [h1] at HN
    go_enter Tryd.func10, Tryd.ntmps10
    go_wp2_with (first | (go_at_call 18; refine (HN.out _).mono ?_; rintro e w1 ⟨rfl, hb1⟩; have q1 := cell_keep hb1 Q1.out; have q2 := cell_keep hb1 Q2.out) | (go_at_call 20; refine (i_within _ _ _ _).mono ?_; rintro e w' ⟨rfl, rfl⟩) | (go_at_call 19; refine (i_isDay _ _).mono ?_; rintro e w' ⟨rfl, rfl⟩))
    go_ret
    exact ⟨by rw [HV.out]; rfl, kept_trans (kept_alloc (Below.refl _ _) _) hb1⟩

theorem s_l18Ticket (s : ByteArray) (b u : Int) (g o : Nat) (W : World) (hs : (s.size : Int) ≤ 1048576) (c0 : W.cell? ⟨g, o, none⟩ = some (.string s)) (c1 : W.cell? ⟨g, o + 1, none⟩ = some (.int .i64 b)) (c2 : W.cell? ⟨g, o + 2, none⟩ = some (.int .i64 u)) :
    Calls Tryd.prog 8 #[.pointer (some ⟨g, o, none⟩)] W fun e W' => e = .returned (.bool (vTk s b u)) ∧ W = W' := by
  have HN := Lib.hid (fun w => s_l01Name s w (by omega))
  rcases vTk_cases s b u with ⟨h1, HV⟩ | ⟨h1, h2, HV⟩ | ⟨h1, h2, HV⟩
  all_goals
    rw [h1] at HN
    go_enter Tryd.func8, Tryd.ntmps8
    go_wp2_with (first | (go_at_call 13; refine (HN.out _).mono ?_; rintro e w' ⟨rfl, rfl⟩) | (go_at_call 15; refine (s_l00In _ _ _ _).mono ?_; rintro e w' ⟨rfl, rfl⟩) | (go_at_call 14; refine (s_l02Day _ _).mono ?_; rintro e w' ⟨rfl, rfl⟩))
    go_ret
    exact ⟨by rw [HV.out]; rfl, rfl⟩

end Go.Proofs.YtjoomijbbiageaaDoor
