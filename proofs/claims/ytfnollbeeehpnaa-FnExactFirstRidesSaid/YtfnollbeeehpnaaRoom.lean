/- The least room: sums of groups, and the small contracts on rooms. -/
import Derived.Test.YtfnollbeeehpnaaKilos
import Derived.Test.YtfnollbeeehpnaaGLawU
namespace Go.Proofs.Ytfnollbeeehpnaa
open Go.RowKit Go.Deep
set_option linter.unusedVariables false
set_option maxRecDepth 100000

theorem boxed_free' {w : World} {cs : Array Value} {t : TypeId} {k : Nat} (i : Nat) (hk : w.heap.size = k) : (w.alloc (.cells cs t)).frozen? ⟨k, i, none⟩ = false := World.frozen?_alloc_at cs t k i hk.symm
theorem free_keep' {w w1 : World} {b o : Nat} (hb : Below w.heap.size w w1) (hl : b < w.heap.size) (h : w.frozen? ⟨b, o, none⟩ = false) : w1.frozen? ⟨b, o, none⟩ = false := by
  rw [hb.frozen (p := ⟨b, o, none⟩) hl]; exact h

def sumI (f : Nat → Int) : Nat → Int
  | 0 => 0
  | k + 1 => sumI f k + f k
theorem sumI_bd {f : Nat → Int} {n : Nat} {m : Int} (h : ∀ i, i < n → 0 ≤ f i ∧ f i ≤ m) : ∀ k, k ≤ n → 0 ≤ sumI f k ∧ sumI f k ≤ k * m := by
  intro k
  induction k with
  | zero => intro _; simp [sumI]
  | succ k ih =>
    intro hk
    have h1 := ih (by omega)
    have h2 := h k (by omega)
    have h3 : ((k + 1 : Nat) : Int) * m = k * m + m := by rw [Int.natCast_add, Int.add_mul]; simp
    rw [h3]
    show 0 ≤ sumI f k + f k ∧ sumI f k + f k ≤ k * m + m
    omega
def kgOf (b c d : Nat → Int) (i : Nat) : Int := 75 * b i + 15 * c i + d i

def vRoom (x y z : Int) : Bool := inB x 0 200 && inB y 0 40 && inB z 0 100000
theorem vRoom_cases (x y z : Int) : (inB x 0 200 = false ∧ Hid (vRoom x y z = false)) ∨ (inB x 0 200 = true ∧ inB y 0 40 = false ∧ Hid (vRoom x y z = false)) ∨ (inB x 0 200 = true ∧ inB y 0 40 = true ∧ inB z 0 100000 = false ∧ Hid (vRoom x y z = false)) ∨ (inB x 0 200 = true ∧ inB y 0 40 = true ∧ inB z 0 100000 = true ∧ Hid (vRoom x y z = true)) := by
  unfold vRoom
  cases inB x 0 200
  · exact .inl ⟨rfl, rfl⟩
  · cases inB y 0 40
    · exact .inr (.inl ⟨rfl, rfl, rfl⟩)
    · cases inB z 0 100000
      · exact .inr (.inr (.inl ⟨rfl, rfl, rfl, rfl⟩))
      · exact .inr (.inr (.inr ⟨rfl, rfl, rfl, rfl⟩))
attribute [irreducible] vRoom

theorem s_l17Room (x y z : Int) (g : Nat) (W : World) (c0 : W.cell? ⟨g, 0, none⟩ = some (.int .i64 x)) (c1 : W.cell? ⟨g, 1, none⟩ = some (.int .i64 y)) (c2 : W.cell? ⟨g, 2, none⟩ = some (.int .i64 z)) :
    Calls Try.prog 64 #[.pointer (some ⟨g, 0, none⟩)] W fun e W' => e = .returned (.bool (vRoom x y z)) ∧ W = W' := by
  rcases vRoom_cases x y z with ⟨h1, HV⟩ | ⟨h1, h2, HV⟩ | ⟨h1, h2, h3, HV⟩ | ⟨h1, h2, h3, HV⟩
  all_goals
    go_enter Try.func64, Try.ntmps64
    go_wp2_with ((go_at_call 90; refine (s_l00In _ _ _ _).mono ?_; rintro e w' ⟨rfl, rfl⟩))
    go_ret
    exact ⟨by rw [HV.out]; rfl, rfl⟩

theorem i_ValidRoom (x y z : Int) (W : World) : Calls Try.prog 67 #[.agg #[.int .i64 x, .int .i64 y, .int .i64 z]] W fun e W' => e = .returned (.bool (vRoom x y z)) ∧ Below W.heap.size W W' := by
  rcases vRoom_cases x y z with ⟨h1, HV⟩ | ⟨h1, h2, HV⟩ | ⟨h1, h2, h3, HV⟩ | ⟨h1, h2, h3, HV⟩
  all_goals
    go_enter Try.func67, Try.ntmps67
    go_wp2_with (first | (go_at_call 70; refine (i_within _ _ _ _).mono ?_; rintro e w' ⟨rfl, rfl⟩) | (go_at_call 103; refine (i_isKilos _ _).mono ?_; rintro e w' ⟨rfl, rfl⟩))
    go_ret
    exact ⟨by rw [HV.out]; rfl, (by repeat (first | assumption | exact Below.refl _ _ | refine kept_drew ?_ | refine kept_drewN ?_ _ | refine kept_alloc ?_ _ | refine kept_set ?_ ?_ _ | (simp; done) | (simp; omega) | refine kept_trans ?_ (by assumption)))⟩

theorem i_plus (x y z x1 y1 z1 : Int) (W : World) (hx : 0 ≤ x + x1 ∧ x + x1 ≤ 1000000000) (hy : 0 ≤ y + y1 ∧ y + y1 ≤ 1000000000) (hz : 0 ≤ z + z1 ∧ z + z1 ≤ 1000000000) : Calls Try.prog 65 #[.agg #[.int .i64 x, .int .i64 y, .int .i64 z], .agg #[.int .i64 x1, .int .i64 y1, .int .i64 z1]] W fun e W' => e = .returned (.agg #[.int .i64 (x + x1), .int .i64 (y + y1), .int .i64 (z + z1)]) ∧ Below W.heap.size W W' := by
  have e1 : IntKind.i64.wrap (x + x1) = x + x1 := IntWalk.i64_in _ (by omega)
  have e2 : IntKind.i64.wrap (y + y1) = y + y1 := IntWalk.i64_in _ (by omega)
  have e3 : IntKind.i64.wrap (z + z1) = z + z1 := IntWalk.i64_in _ (by omega)
  go_enter Try.func65, Try.ntmps65
  go_wp2
  refine bodyPost_ret (v := .agg #[.int .i64 (x + x1), .int .i64 (y + y1), .int .i64 (z + z1)]) (by simp [results, go_sem]) rfl ⟨rfl, (by repeat (first | assumption | exact Below.refl _ _ | refine kept_drew ?_ | refine kept_drewN ?_ _ | refine kept_alloc ?_ _ | refine kept_set ?_ ?_ _ | (simp; done) | (simp; omega) | refine kept_trans ?_ (by assumption)))⟩

end Go.Proofs.Ytfnollbeeehpnaa
