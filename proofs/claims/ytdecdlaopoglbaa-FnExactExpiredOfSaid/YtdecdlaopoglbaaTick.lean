/- Tickets: whether one is as it has to be, whether it is good on a day. -/
import Derived.Test.YtdecdlaopoglbaaPays
namespace Go.Proofs.Ytdecdlaopoglbaa
open Go.RowKit Go.Deep
set_option linter.unusedVariables false
set_option maxRecDepth 100000

def vTk (s : ByteArray) (b u : Int) : Bool := isName s && inB b 0 36524 && inB u 0 1000
theorem vTk_out {s : ByteArray} {b u : Int} (h : vTk s b u = true) : isName s = true ∧ (0 ≤ b ∧ b ≤ 36524) ∧ (0 ≤ u ∧ u ≤ 1000) := by
  simp only [vTk, Bool.and_eq_true, inB_iff] at h
  exact ⟨h.1.1, h.1.2, h.2⟩
theorem vTk_cases (s : ByteArray) (b u : Int) : (isName s = false ∧ Hid (vTk s b u = false)) ∨ (isName s = true ∧ inB b 0 36524 = false ∧ Hid (vTk s b u = false)) ∨ (isName s = true ∧ inB b 0 36524 = true ∧ Hid (vTk s b u = inB u 0 1000)) := by
  have key : vTk s b u = (isName s && inB b 0 36524 && inB u 0 1000) := rfl
  cases h1 : isName s
  · exact .inl ⟨rfl, by rw [h1] at key; exact key⟩
  · cases h2 : inB b 0 36524
    · exact .inr (.inl ⟨rfl, rfl, by rw [h1, h2] at key; exact key⟩)
    · exact .inr (.inr ⟨rfl, rfl, by rw [h1, h2] at key; exact key⟩)
attribute [irreducible] vTk

theorem i_isTicket (s : ByteArray) (b u : Int) (W : World) (hs : (s.size : Int) ≤ 1048576) : Calls Try.prog 51 #[.agg #[.string s, .int .i64 b, .int .i64 u]] W fun e W' => e = .returned (.bool (vTk s b u)) ∧ Below W.heap.size W W' := by
  have Q1 : Hid ((W.alloc (.cells #[.string s, .int .i64 b, .int .i64 u] 58)).cell? ⟨W.heap.size, 1, none⟩ = some (.int .i64 b)) := boxed_at rfl rfl
  have Q2 : Hid ((W.alloc (.cells #[.string s, .int .i64 b, .int .i64 u] 58)).cell? ⟨W.heap.size, 2, none⟩ = some (.int .i64 u)) := boxed_at rfl rfl
  have HN := Lib.hid (fun w => i_IsName s w (by omega))
  rcases vTk_cases s b u with ⟨h1, HV⟩ | ⟨h1, h2, HV⟩ | ⟨h1, h2, HV⟩
  all_goals
    rw [h1] at HN
    go_enter Try.func51, Try.ntmps51
    go_wp2_with (first | (go_at_call 58; refine (HN.out _).mono ?_; rintro e w1 ⟨rfl, hb1⟩; have q1 := cell_keep hb1 Q1.out; have q2 := cell_keep hb1 Q2.out) | (go_at_call 36; refine (i_within _ _ _ _).mono ?_; rintro e w' ⟨rfl, rfl⟩) | (go_at_call 35; refine (i_isDay _ _).mono ?_; rintro e w' ⟨rfl, rfl⟩))
    go_ret
    exact ⟨by rw [HV.out]; rfl, kept_trans (kept_alloc (Below.refl _ _) _) hb1⟩

theorem s_l18Ticket (s : ByteArray) (b u : Int) (g o : Nat) (W : World) (hs : (s.size : Int) ≤ 1048576) (c0 : W.cell? ⟨g, o, none⟩ = some (.string s)) (c1 : W.cell? ⟨g, o + 1, none⟩ = some (.int .i64 b)) (c2 : W.cell? ⟨g, o + 2, none⟩ = some (.int .i64 u)) :
    Calls Try.prog 57 #[.pointer (some ⟨g, o, none⟩)] W fun e W' => e = .returned (.bool (vTk s b u)) ∧ W = W' := by
  have HN := Lib.hid (fun w => s_l01Name s w (by omega))
  rcases vTk_cases s b u with ⟨h1, HV⟩ | ⟨h1, h2, HV⟩ | ⟨h1, h2, HV⟩
  all_goals
    rw [h1] at HN
    go_enter Try.func57, Try.ntmps57
    go_wp2_with (first | (go_at_call 59; refine (HN.out _).mono ?_; rintro e w' ⟨rfl, rfl⟩) | (go_at_call 50; refine (s_l00In _ _ _ _).mono ?_; rintro e w' ⟨rfl, rfl⟩) | (go_at_call 41; refine (s_l02Day _ _).mono ?_; rintro e w' ⟨rfl, rfl⟩))
    go_ret
    exact ⟨by rw [HV.out]; rfl, rfl⟩

def tgood (bo u r dd day : Int) : Bool := decide (bo ≤ day) && decide (day - bo < dd) && decide (u < r)
theorem tgood_cases (bo u r dd day : Int) : (day < bo ∧ Hid (tgood bo u r dd day = false)) ∨ (bo ≤ day ∧ dd ≤ day - bo ∧ Hid (tgood bo u r dd day = false)) ∨ (bo ≤ day ∧ day - bo < dd ∧ r ≤ u ∧ Hid (tgood bo u r dd day = false)) ∨ (bo ≤ day ∧ day - bo < dd ∧ u < r ∧ Hid (tgood bo u r dd day = true)) := by
  have key : tgood bo u r dd day = (decide (bo ≤ day) && decide (day - bo < dd) && decide (u < r)) := rfl
  by_cases h1 : bo ≤ day
  · by_cases h2 : day - bo < dd
    · by_cases h3 : u < r
      · exact .inr (.inr (.inr ⟨h1, h2, h3, by show _ = _; rw [key]; simp [h1, h2, h3]⟩))
      · exact .inr (.inr (.inl ⟨h1, h2, by omega, by show _ = _; rw [key]; simp [h3]⟩))
    · exact .inr (.inl ⟨h1, by omega, by show _ = _; rw [key]; simp [h2]⟩)
  · exact .inl ⟨by omega, by show _ = _; rw [key]; simp [h1]⟩
attribute [irreducible] tgood

theorem i_isGood (s f : ByteArray) (c r dd bo u day : Int) (W : World) (h1 : 0 ≤ bo ∧ bo ≤ 36524) (h2 : 0 ≤ day ∧ day ≤ 36524) :
    Calls Try.prog 48 #[.agg #[.string s, .int .i64 c, .int .i64 r, .int .i64 dd], .agg #[.string f, .int .i64 bo, .int .i64 u], .int .i64 day] W fun e W' => e = .returned (.bool (tgood bo u r dd day)) ∧ Below W.heap.size W W' := by
  rcases tgood_cases bo u r dd day with ⟨k1, HV⟩ | ⟨k1, k2, HV⟩ | ⟨k1, k2, k3, HV⟩ | ⟨k1, k2, k3, HV⟩
  all_goals
    go_enter Try.func48, Try.ntmps48
    go_wp2
    go_ret
    exact ⟨by rw [HV.out]; first | rfl | exact ret_bool (by simp <;> omega), kept_alloc (kept_alloc (Below.refl _ _) _) _⟩

theorem s_l18Good (g1 o1 g2 o2 : Nat) (r dd bo u day : Int) (W : World) (h1 : 0 ≤ bo ∧ bo ≤ 36524) (h2 : 0 ≤ day ∧ day ≤ 36524)
    (c2 : W.cell? ⟨g1, o1 + 2, none⟩ = some (.int .i64 r)) (c3 : W.cell? ⟨g1, o1 + 3, none⟩ = some (.int .i64 dd)) (d1 : W.cell? ⟨g2, o2 + 1, none⟩ = some (.int .i64 bo)) (d2 : W.cell? ⟨g2, o2 + 2, none⟩ = some (.int .i64 u)) :
    Calls Try.prog 47 #[.pointer (some ⟨g1, o1, none⟩), .pointer (some ⟨g2, o2, none⟩), .int .i64 day] W fun e W' => e = .returned (.bool (tgood bo u r dd day)) ∧ Below W.heap.size W W' := by
  have e1 : IntKind.i64.wrap (day - bo) = day - bo := IntWalk.i64_in _ (by omega)
  rcases tgood_cases bo u r dd day with ⟨k1, HV⟩ | ⟨k1, k2, HV⟩ | ⟨k1, k2, k3, HV⟩ | ⟨k1, k2, k3, HV⟩
  · have x1 : decide (bo ≤ day) = false := by simp; omega
    go_enter Try.func47, Try.ntmps47
    go_wp2_with fail
    go_quiet (fail)
    clear e1 x1
    go_wp2_with fail
    go_ret
    exact ⟨by rw [HV.out]; rfl, kept_drewN (Below.refl _ _) _⟩
  · have x1 : decide (bo ≤ day) = true := by simp; omega
    have x2 : decide (day - bo < dd) = false := by simp; omega
    go_enter Try.func47, Try.ntmps47
    go_wp2_with fail
    go_quiet (fail)
    clear e1 x1 x2
    go_wp2_with fail
    go_ret
    exact ⟨by rw [HV.out]; rfl, kept_drewN (Below.refl _ _) _⟩
  · have x1 : decide (bo ≤ day) = true := by simp; omega
    have x2 : decide (day - bo < dd) = true := by simp; omega
    have x3 : decide (u < r) = false := by simp; omega
    go_enter Try.func47, Try.ntmps47
    go_wp2_with fail
    go_quiet (fail)
    clear e1 x1 x2 x3
    go_wp2_with fail
    go_ret
    exact ⟨by rw [HV.out]; rfl, kept_drewN (Below.refl _ _) _⟩
  · have x1 : decide (bo ≤ day) = true := by simp; omega
    have x2 : decide (day - bo < dd) = true := by simp; omega
    have x3 : decide (u < r) = true := by simp; omega
    go_enter Try.func47, Try.ntmps47
    go_wp2_with fail
    go_quiet (fail)
    clear e1 x1 x2 x3
    go_wp2_with fail
    go_ret
    exact ⟨by rw [HV.out]; rfl, kept_drewN (Below.refl _ _) _⟩

end Go.Proofs.Ytdecdlaopoglbaa
