/- Contracts of the laws' helpers on single structs, and on sizes. -/
import Derived.Test.YtcbceodlakbpdaaBase
namespace Go.Proofs.Ytcbceodlakbpdaa
open Go.RowKit Go.Deep

theorem kept_grown {A b c : World} {row : Option Nat} (h : Below A.heap.size A b) (hg : b.grownBy c row) (hr : ∀ k, row = some k → A.heap.size ≤ k) : Below A.heap.size A c := h.trans (below_of_grown hg h.size hr)

theorem sz_rides (ao : Option Addr) (n cap : Nat) (left : Int) (W : World) (h : 0 ≤ left ∧ left ≤ 1048576 ∧ (n : Int) ≤ 17592186044416) : Calls Try.prog 12 #[.slice ao n cap, .int .i64 left] W fun e W' => ∃ r, e = .returned (.int .i64 r) ∧ (-1 ≤ r ∧ r ≤ left) ∧ Hid (0 ≤ r → (n : Int) ≤ left) ∧ Below W.heap.size W W' := by
  obtain ⟨h0, h1, h2⟩ := h
  rcases (show left < n ∨ (n : Int) ≤ left by omega) with hl | hl
  · go_enter Try.func12, Try.ntmps12
    go_wp2
    go_ret
    exact ⟨_, rfl, by omega, fun h => by omega, (by repeat (first | assumption | exact Below.refl _ _ | refine kept_drew ?_ | refine kept_drewN ?_ _ | refine kept_alloc ?_ _ | refine kept_set ?_ ?_ _ | (simp; done) | (simp; omega) | refine kept_trans ?_ (by assumption)))⟩
  · go_enter Try.func12, Try.ntmps12
    go_wp2
    go_ret
    exact ⟨_, rfl, by omega, fun _ => hl, (by repeat (first | assumption | exact Below.refl _ _ | refine kept_drew ?_ | refine kept_drewN ?_ _ | refine kept_alloc ?_ _ | refine kept_set ?_ ?_ _ | (simp; done) | (simp; omega) | refine kept_trans ?_ (by assumption)))⟩

end Go.Proofs.Ytcbceodlakbpdaa
