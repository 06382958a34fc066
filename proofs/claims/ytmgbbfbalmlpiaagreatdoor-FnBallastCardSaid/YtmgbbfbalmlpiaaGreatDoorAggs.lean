/- Contracts of the laws' helpers on single structs, and on sizes. -/
import Derived.Test.YtmgbbfbalmlpiaaGreatDoorBase
namespace Go.Proofs.YtmgbbfbalmlpiaaGreatDoor
open Go.RowKit Go.Deep

theorem kept_grown {A b c : World} {row : Option Nat} (h : Below A.heap.size A b) (hg : b.grownBy c row) (hr : ∀ k, row = some k → A.heap.size ≤ k) : Below A.heap.size A c := h.trans (below_of_grown hg h.size hr)

/-- The new cells of an append, in whatever world they are laid. -/
theorem laid_at {w : World} {cs : List Value} {t : TypeId} {k : Nat} (hk : w.heap.size = k) : ∀ j u, cs[j]? = some u → (w.alloc (.cells cs.toArray t)).cell? ((⟨k, 0, none⟩ : Addr).add j) = some u := by subst hk; exact laid_new
theorem cell_keep {w w1 : World} {b o : Nat} {v : Value} (hb : Below w.heap.size w w1) (hc : w.cell? ⟨b, o, none⟩ = some v) : w1.cell? ⟨b, o, none⟩ = some v := by
  rw [hb.cell (p := ⟨b, o, none⟩) (World.block_lt_of_cell? w _ hc)]; exact hc
theorem boxed_at {w : World} {cs : Array Value} {t : TypeId} {k i : Nat} {v : Value} (hk : w.heap.size = k) (h : cs[i]? = some v) : (w.alloc (.cells cs t)).cell? ⟨k, i, none⟩ = some v := by
  subst hk
  rw [World.cell?, show (w.alloc (.cells cs t)).heap[w.heap.size]? = some (.cells cs t (0, 0)) from heap_alloc_new w _]
  simpa using h
theorem Out.base_le {w : World} {B B' k n : Nat} {e : TypeId} {v : Value} {f : Nat → Value} (h : Out w B' e k v n f) (hB : B ≤ B') : Out w B e k v n f := by
  refine ⟨h.1, ?_⟩
  rcases h.2 with h2 | ⟨g, cap, cur, h3, h4, h5⟩
  · exact .inl h2
  · exact .inr ⟨g, cap, cur, h3, Nat.le_trans hB h4, h5⟩
theorem Out.opened {w : World} {B k n : Nat} {e : TypeId} {v : Value} {f : Nat → Value} (h : Out w B e k v n f) (hn : 0 < n * k) : ∃ g cap, v = .slice (some ⟨g, 0, none⟩) n cap ∧ B ≤ g ∧ Row w g 0 (n * k) f := by
  have hh := h
  rcases h.2 with ⟨rfl, h2⟩ | ⟨g, cap, cur, rfl, _⟩
  · rw [h2, Nat.zero_mul] at hn; omega
  · exact ⟨g, cap, rfl, (World.ownsRow.lt hh g rfl).1, (Row.of_own hh).congr fun i hi => cellsN_getD hi⟩

end Go.Proofs.YtmgbbfbalmlpiaaGreatDoor
