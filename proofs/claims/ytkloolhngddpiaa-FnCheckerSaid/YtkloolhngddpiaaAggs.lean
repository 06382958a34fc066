/- Contracts of the laws' helpers on single structs, and on sizes. -/
import Derived.Test.YtkloolhngddpiaaBase
namespace Go.Proofs.Ytkloolhngddpiaa
open Go.RowKit Go.Deep

theorem kept_grown {A b c : World} {row : Option Nat} (h : Below A.heap.size A b) (hg : b.grownBy c row) (hr : ∀ k, row = some k → A.heap.size ≤ k) : Below A.heap.size A c := h.trans (below_of_grown hg h.size hr)

/-- The new cells of an append, in whatever world they are laid. -/
theorem laid_at {w : World} {cs : List Value} {t : TypeId} {k : Nat} (hk : w.heap.size = k) : ∀ j u, cs[j]? = some u → (w.alloc (.cells cs.toArray t)).cell? ((⟨k, 0, none⟩ : Addr).add j) = some u := by subst hk; exact laid_new
theorem cell_keep {w w1 : World} {b o : Nat} {v : Value} (hb : Below w.heap.size w w1) (hc : w.cell? ⟨b, o, none⟩ = some v) : w1.cell? ⟨b, o, none⟩ = some v := by
  rw [hb.cell (p := ⟨b, o, none⟩) (World.block_lt_of_cell? w _ hc)]; exact hc
theorem boxed_at {w : World} {cs : Array Value} {t : TypeId} {k i : Nat} {v : Value} (hk : w.heap.size = k) (h : cs[i]? = some v) : (w.alloc (.cells cs t)).cell? ⟨k, i, none⟩ = some v := by
  subst hk
  rw [World.cell?, show (w.alloc (.cells cs t)).heap[w.heap.size]? = some (.cells cs t (0, 0)) from heap_alloc_new w _]
  simpa using h
theorem Out.base_le {w : World} {B B' k n : Nat} {e : TypeId} {v : Value} {f : Nat → Value} (h : Out w B' e k v n f) (hB : B ≤ B') : Out w B e k v n f := by
  refine ⟨h.1, ?_⟩
  rcases h.2 with h2 | ⟨g, cap, cur, h3, h4, h5⟩
  · exact .inl h2
  · exact .inr ⟨g, cap, cur, h3, Nat.le_trans hB h4, h5⟩
theorem Out.opened {w : World} {B k n : Nat} {e : TypeId} {v : Value} {f : Nat → Value} (h : Out w B e k v n f) (hn : 0 < n * k) : ∃ g cap, v = .slice (some ⟨g, 0, none⟩) n cap ∧ B ≤ g ∧ Row w g 0 (n * k) f := by
  have hh := h
  rcases h.2 with ⟨rfl, h2⟩ | ⟨g, cap, cur, rfl, _⟩
  · rw [h2, Nat.zero_mul] at hn; omega
  · exact ⟨g, cap, rfl, (World.ownsRow.lt hh g rfl).1, (Row.of_own hh).congr fun i hi => cellsN_getD hi⟩

theorem l_toFare (a0 : ByteArray) (a1 : Int) (a2 : Int) (a3 : Int) (W : World) : Calls Try.prog 66 #[.agg #[.string a0, .int .i64 a1, .int .i64 a2, .int .i64 a3]] W fun e W' => e = .returned (.agg #[.string a0, .int .i64 a1, .int .i64 a2, .int .i64 a3]) ∧ Below W.heap.size W W' := by
  go_enter Try.func66, Try.ntmps66
  go_wp2
  refine bodyPost_ret (v := .agg #[.string a0, .int .i64 a1, .int .i64 a2, .int .i64 a3]) (by simp [results, go_sem]) rfl ⟨rfl, (by repeat (first | assumption | exact Below.refl _ _ | refine kept_drew ?_ | refine kept_drewN ?_ _ | refine kept_alloc ?_ _ | refine kept_set ?_ ?_ _ | (simp; done) | (simp; omega) | refine kept_trans ?_ (by assumption)))⟩

theorem l_eqFare (a0 : ByteArray) (a1 : Int) (a2 : Int) (a3 : Int) (W : World) : Calls Try.prog 72 #[.agg #[.string a0, .int .i64 a1, .int .i64 a2, .int .i64 a3], .agg #[.string a0, .int .i64 a1, .int .i64 a2, .int .i64 a3]] W fun e W' => e = .returned (.bool true) ∧ Below W.heap.size W W' := by
  go_enter Try.func72, Try.ntmps72
  go_wp2
  go_ret
  exact ⟨rfl, (by repeat (first | assumption | exact Below.refl _ _ | refine kept_drew ?_ | refine kept_drewN ?_ _ | refine kept_alloc ?_ _ | refine kept_set ?_ ?_ _ | (simp; done) | (simp; omega) | refine kept_trans ?_ (by assumption)))⟩

theorem sz_Fare (a0 : ByteArray) (a1 : Int) (a2 : Int) (a3 : Int) (left : Int) (W : World) (h : 0 ≤ left ∧ left ≤ 1048576) (hs : (a0.size : Int) ≤ 9223372036854775807) : Calls Try.prog 61 #[.agg #[.string a0, .int .i64 a1, .int .i64 a2, .int .i64 a3], .int .i64 left] W fun e W' => ∃ r, e = .returned (.int .i64 r) ∧ (-1 ≤ r ∧ r ≤ left) ∧ Hid (0 ≤ r → (a0.size : Int) ≤ left) ∧ Below W.heap.size W W' := by
  obtain ⟨h0, h1⟩ := h
  rcases (show left < a0.size ∨ (a0.size : Int) ≤ left by omega) with hl | hl
  · go_enter Try.func61, Try.ntmps61
    go_wp2
    go_ret
    exact ⟨_, rfl, by omega, fun h => by omega, (by repeat (first | assumption | exact Below.refl _ _ | refine kept_drew ?_ | refine kept_drewN ?_ _ | refine kept_alloc ?_ _ | refine kept_set ?_ ?_ _ | (simp; done) | (simp; omega) | refine kept_trans ?_ (by assumption)))⟩
  · go_enter Try.func61, Try.ntmps61
    go_wp2
    go_ret
    exact ⟨_, rfl, by omega, fun _ => hl, (by repeat (first | assumption | exact Below.refl _ _ | refine kept_drew ?_ | refine kept_drewN ?_ _ | refine kept_alloc ?_ _ | refine kept_set ?_ ?_ _ | (simp; done) | (simp; omega) | refine kept_trans ?_ (by assumption)))⟩

theorem l_toTicket (a0 : ByteArray) (a1 : Int) (a2 : Int) (W : World) : Calls Try.prog 67 #[.agg #[.string a0, .int .i64 a1, .int .i64 a2]] W fun e W' => e = .returned (.agg #[.string a0, .int .i64 a1, .int .i64 a2]) ∧ Below W.heap.size W W' := by
  go_enter Try.func67, Try.ntmps67
  go_wp2
  refine bodyPost_ret (v := .agg #[.string a0, .int .i64 a1, .int .i64 a2]) (by simp [results, go_sem]) rfl ⟨rfl, (by repeat (first | assumption | exact Below.refl _ _ | refine kept_drew ?_ | refine kept_drewN ?_ _ | refine kept_alloc ?_ _ | refine kept_set ?_ ?_ _ | (simp; done) | (simp; omega) | refine kept_trans ?_ (by assumption)))⟩

theorem l_eqTicket (a0 : ByteArray) (a1 : Int) (a2 : Int) (W : World) : Calls Try.prog 73 #[.agg #[.string a0, .int .i64 a1, .int .i64 a2], .agg #[.string a0, .int .i64 a1, .int .i64 a2]] W fun e W' => e = .returned (.bool true) ∧ Below W.heap.size W W' := by
  go_enter Try.func73, Try.ntmps73
  go_wp2
  go_ret
  exact ⟨rfl, (by repeat (first | assumption | exact Below.refl _ _ | refine kept_drew ?_ | refine kept_drewN ?_ _ | refine kept_alloc ?_ _ | refine kept_set ?_ ?_ _ | (simp; done) | (simp; omega) | refine kept_trans ?_ (by assumption)))⟩

theorem sz_Ticket (a0 : ByteArray) (a1 : Int) (a2 : Int) (left : Int) (W : World) (h : 0 ≤ left ∧ left ≤ 1048576) (hs : (a0.size : Int) ≤ 9223372036854775807) : Calls Try.prog 62 #[.agg #[.string a0, .int .i64 a1, .int .i64 a2], .int .i64 left] W fun e W' => ∃ r, e = .returned (.int .i64 r) ∧ (-1 ≤ r ∧ r ≤ left) ∧ Hid (0 ≤ r → (a0.size : Int) ≤ left) ∧ Below W.heap.size W W' := by
  obtain ⟨h0, h1⟩ := h
  rcases (show left < a0.size ∨ (a0.size : Int) ≤ left by omega) with hl | hl
  · go_enter Try.func62, Try.ntmps62
    go_wp2
    go_ret
    exact ⟨_, rfl, by omega, fun h => by omega, (by repeat (first | assumption | exact Below.refl _ _ | refine kept_drew ?_ | refine kept_drewN ?_ _ | refine kept_alloc ?_ _ | refine kept_set ?_ ?_ _ | (simp; done) | (simp; omega) | refine kept_trans ?_ (by assumption)))⟩
  · go_enter Try.func62, Try.ntmps62
    go_wp2
    go_ret
    exact ⟨_, rfl, by omega, fun _ => hl, (by repeat (first | assumption | exact Below.refl _ _ | refine kept_drew ?_ | refine kept_drewN ?_ _ | refine kept_alloc ?_ _ | refine kept_set ?_ ?_ _ | (simp; done) | (simp; omega) | refine kept_trans ?_ (by assumption)))⟩

theorem l_toState (a0 : Int) (a1 : Bool) (a2 : Bool) (a3 : Bool) (a4 : Bool) (W : World) : Calls Try.prog 35 #[.agg #[.int .i64 a0, .bool a1, .bool a2, .bool a3, .bool a4]] W fun e W' => e = .returned (.agg #[.int .i64 a0, .bool a1, .bool a2, .bool a3, .bool a4]) ∧ Below W.heap.size W W' := by
  go_enter Try.func35, Try.ntmps35
  go_wp2
  refine bodyPost_ret (v := .agg #[.int .i64 a0, .bool a1, .bool a2, .bool a3, .bool a4]) (by simp [results, go_sem]) rfl ⟨rfl, (by repeat (first | assumption | exact Below.refl _ _ | refine kept_drew ?_ | refine kept_drewN ?_ _ | refine kept_alloc ?_ _ | refine kept_set ?_ ?_ _ | (simp; done) | (simp; omega) | refine kept_trans ?_ (by assumption)))⟩

theorem l_eqState (a0 : Int) (a1 : Bool) (a2 : Bool) (a3 : Bool) (a4 : Bool) (W : World) : Calls Try.prog 89 #[.agg #[.int .i64 a0, .bool a1, .bool a2, .bool a3, .bool a4], .agg #[.int .i64 a0, .bool a1, .bool a2, .bool a3, .bool a4]] W fun e W' => e = .returned (.bool true) ∧ Below W.heap.size W W' := by
  go_enter Try.func89, Try.ntmps89
  go_wp2
  go_ret
  exact ⟨rfl, (by repeat (first | assumption | exact Below.refl _ _ | refine kept_drew ?_ | refine kept_drewN ?_ _ | refine kept_alloc ?_ _ | refine kept_set ?_ ?_ _ | (simp; done) | (simp; omega) | refine kept_trans ?_ (by assumption)))⟩

end Go.Proofs.Ytkloolhngddpiaa
