/- A block of five cells, read and written. -/
import Derived.Test.YtkloolhngddpiaaSrc2
namespace Go.Proofs.Ytkloolhngddpiaa
open Go.RowKit Go.Deep
set_option linter.unusedVariables false
set_option maxRecDepth 100000

/-- A block of five cells that may be written. -/
def Box5 (w : World) (g : Nat) (v0 v1 v2 v3 v4 : Value) : Prop :=
  g < w.heap.size ∧ w.cell? ⟨g, 0, none⟩ = some v0 ∧ w.cell? ⟨g, 1, none⟩ = some v1 ∧ w.cell? ⟨g, 2, none⟩ = some v2 ∧ w.cell? ⟨g, 3, none⟩ = some v3 ∧ w.cell? ⟨g, 4, none⟩ = some v4 ∧ ∀ i, w.frozen? ⟨g, i, none⟩ = false
theorem Box5.new (w : World) (v0 v1 v2 v3 v4 : Value) (t : TypeId) : Box5 (w.alloc (.cells #[v0, v1, v2, v3, v4] t)) w.heap.size v0 v1 v2 v3 v4 :=
  ⟨by simp, boxed_at rfl rfl, boxed_at rfl rfl, boxed_at rfl rfl, boxed_at rfl rfl, boxed_at rfl rfl, fun i => World.frozen?_alloc_at _ t w.heap.size i rfl⟩
theorem Box5.grown {w w1 : World} {g k : Nat} {v0 v1 v2 v3 v4 : Value} (h : Box5 w k v0 v1 v2 v3 v4) (hg : w.grownBy w1 (some g)) (hne : k ≠ g) : Box5 w1 k v0 v1 v2 v3 v4 :=
  ⟨Nat.lt_of_lt_of_le h.1 hg.size, grown_cell hg hne h.2.1, grown_cell hg hne h.2.2.1, grown_cell hg hne h.2.2.2.1, grown_cell hg hne h.2.2.2.2.1, grown_cell hg hne h.2.2.2.2.2.1, fun i => grown_free hg hne h.1 (h.2.2.2.2.2.2 i)⟩
theorem Box5.kept {w w1 : World} {k : Nat} {v0 v1 v2 v3 v4 : Value} (h : Box5 w k v0 v1 v2 v3 v4) (hb : Below w.heap.size w w1) : Box5 w1 k v0 v1 v2 v3 v4 :=
  h.grown (g := k + 1) (grown_of_below hb _) (by omega)
theorem Box5.other {w : World} {k k' : Nat} {v0 v1 v2 v3 v4 : Value} (h : Box5 w k v0 v1 v2 v3 v4) (hne : k' ≠ k) (j : Nat) (v : Value) : Box5 (w.setCell ⟨k', j, none⟩ v) k v0 v1 v2 v3 v4 := by
  have ho : ∀ i u, w.cell? ⟨k, i, none⟩ = some u → (w.setCell ⟨k', j, none⟩ v).cell? ⟨k, i, none⟩ = some u := fun i u hu => by
    rw [World.cell?_setCell_other _ _ _ _ (fun e => hne (congrArg (fun a : Addr => a.block) e))]; exact hu
  exact ⟨by simp; exact h.1, ho _ _ h.2.1, ho _ _ h.2.2.1, ho _ _ h.2.2.2.1, ho _ _ h.2.2.2.2.1, ho _ _ h.2.2.2.2.2.1, fun i => by rw [World.frozen?_setCell]; exact h.2.2.2.2.2.2 i⟩
theorem Box5.set0 {w : World} {k : Nat} {v0 v1 v2 v3 v4 : Value} (h : Box5 w k v0 v1 v2 v3 v4) (v : Value) : Box5 (w.setCell ⟨k, 0, none⟩ v) k v v1 v2 v3 v4 := by
  have ho : ∀ i u, i ≠ 0 → w.cell? ⟨k, i, none⟩ = some u → (w.setCell ⟨k, 0, none⟩ v).cell? ⟨k, i, none⟩ = some u := fun i u hi hu => by
    rw [World.cell?_setCell_other _ _ _ _ (by first | (simp; done) | (simp; omega))]; exact hu
  exact ⟨by simp; exact h.1, World.cell?_setCell_same _ _ _ h.2.1, ho _ _ (by omega) h.2.2.1, ho _ _ (by omega) h.2.2.2.1, ho _ _ (by omega) h.2.2.2.2.1, ho _ _ (by omega) h.2.2.2.2.2.1, fun i => by rw [World.frozen?_setCell]; exact h.2.2.2.2.2.2 i⟩
theorem Box5.set1 {w : World} {k : Nat} {v0 v1 v2 v3 v4 : Value} (h : Box5 w k v0 v1 v2 v3 v4) (v : Value) : Box5 (w.setCell ⟨k, 1, none⟩ v) k v0 v v2 v3 v4 := by
  have ho : ∀ i u, i ≠ 1 → w.cell? ⟨k, i, none⟩ = some u → (w.setCell ⟨k, 1, none⟩ v).cell? ⟨k, i, none⟩ = some u := fun i u hi hu => by
    rw [World.cell?_setCell_other _ _ _ _ (by first | (simp; done) | (simp; omega))]; exact hu
  exact ⟨by simp; exact h.1, ho _ _ (by omega) h.2.1, World.cell?_setCell_same _ _ _ h.2.2.1, ho _ _ (by omega) h.2.2.2.1, ho _ _ (by omega) h.2.2.2.2.1, ho _ _ (by omega) h.2.2.2.2.2.1, fun i => by rw [World.frozen?_setCell]; exact h.2.2.2.2.2.2 i⟩
theorem Box5.set2 {w : World} {k : Nat} {v0 v1 v2 v3 v4 : Value} (h : Box5 w k v0 v1 v2 v3 v4) (v : Value) : Box5 (w.setCell ⟨k, 2, none⟩ v) k v0 v1 v v3 v4 := by
  have ho : ∀ i u, i ≠ 2 → w.cell? ⟨k, i, none⟩ = some u → (w.setCell ⟨k, 2, none⟩ v).cell? ⟨k, i, none⟩ = some u := fun i u hi hu => by
    rw [World.cell?_setCell_other _ _ _ _ (by first | (simp; done) | (simp; omega))]; exact hu
  exact ⟨by simp; exact h.1, ho _ _ (by omega) h.2.1, ho _ _ (by omega) h.2.2.1, World.cell?_setCell_same _ _ _ h.2.2.2.1, ho _ _ (by omega) h.2.2.2.2.1, ho _ _ (by omega) h.2.2.2.2.2.1, fun i => by rw [World.frozen?_setCell]; exact h.2.2.2.2.2.2 i⟩
theorem Box5.set3 {w : World} {k : Nat} {v0 v1 v2 v3 v4 : Value} (h : Box5 w k v0 v1 v2 v3 v4) (v : Value) : Box5 (w.setCell ⟨k, 3, none⟩ v) k v0 v1 v2 v v4 := by
  have ho : ∀ i u, i ≠ 3 → w.cell? ⟨k, i, none⟩ = some u → (w.setCell ⟨k, 3, none⟩ v).cell? ⟨k, i, none⟩ = some u := fun i u hi hu => by
    rw [World.cell?_setCell_other _ _ _ _ (by first | (simp; done) | (simp; omega))]; exact hu
  exact ⟨by simp; exact h.1, ho _ _ (by omega) h.2.1, ho _ _ (by omega) h.2.2.1, ho _ _ (by omega) h.2.2.2.1, World.cell?_setCell_same _ _ _ h.2.2.2.2.1, ho _ _ (by omega) h.2.2.2.2.2.1, fun i => by rw [World.frozen?_setCell]; exact h.2.2.2.2.2.2 i⟩
theorem Box5.set4 {w : World} {k : Nat} {v0 v1 v2 v3 v4 : Value} (h : Box5 w k v0 v1 v2 v3 v4) (v : Value) : Box5 (w.setCell ⟨k, 4, none⟩ v) k v0 v1 v2 v3 v := by
  have ho : ∀ i u, i ≠ 4 → w.cell? ⟨k, i, none⟩ = some u → (w.setCell ⟨k, 4, none⟩ v).cell? ⟨k, i, none⟩ = some u := fun i u hi hu => by
    rw [World.cell?_setCell_other _ _ _ _ (by first | (simp; done) | (simp; omega))]; exact hu
  exact ⟨by simp; exact h.1, ho _ _ (by omega) h.2.1, ho _ _ (by omega) h.2.2.1, ho _ _ (by omega) h.2.2.2.1, ho _ _ (by omega) h.2.2.2.2.1, World.cell?_setCell_same _ _ _ h.2.2.2.2.2.1, fun i => by rw [World.frozen?_setCell]; exact h.2.2.2.2.2.2 i⟩
theorem Box5.put {w : World} {k : Nat} {v0 v1 v2 v3 v4 : Value} (h : Box5 w k v0 v1 v2 v3 v4) (u0 u1 u2 u3 u4 : Value) : Box5 (((((w.setCell ⟨k, 0, none⟩ u0).setCell ⟨k, 1, none⟩ u1).setCell ⟨k, 2, none⟩ u2).setCell ⟨k, 3, none⟩ u3).setCell ⟨k, 4, none⟩ u4) k u0 u1 u2 u3 u4 :=
  ((((h.set0 u0).set1 u1).set2 u2).set3 u3).set4 u4
theorem Box5.other5 {w : World} {k k' : Nat} {v0 v1 v2 v3 v4 : Value} (h : Box5 w k v0 v1 v2 v3 v4) (hne : k' ≠ k) (u0 u1 u2 u3 u4 : Value) : Box5 (((((w.setCell ⟨k', 0, none⟩ u0).setCell ⟨k', 1, none⟩ u1).setCell ⟨k', 2, none⟩ u2).setCell ⟨k', 3, none⟩ u3).setCell ⟨k', 4, none⟩ u4) k v0 v1 v2 v3 v4 :=
  ((((h.other hne 0 u0).other hne 1 u1).other hne 2 u2).other hne 3 u3).other hne 4 u4
theorem grown_store {w w1 : World} {row : Option Nat} (h : w.grownBy w1 row) {k : Nat} (hk : w.heap.size ≤ k) (i : Nat) (v : Value) : w.grownBy (w1.setCell ⟨k, i, none⟩ v) row :=
  ⟨h.os, h.tape, h.output, by simpa [World.setCell] using h.size, fun j hj hne => (Below.heap_setCell w1 ⟨k, i, none⟩ v j (by show j ≠ k; omega)).trans (h.block j hj hne)⟩
theorem grown_put {w w1 : World} {row : Option Nat} (h : w.grownBy w1 row) {k : Nat} (hk : w.heap.size ≤ k) (u0 u1 u2 u3 u4 : Value) : w.grownBy (((((w1.setCell ⟨k, 0, none⟩ u0).setCell ⟨k, 1, none⟩ u1).setCell ⟨k, 2, none⟩ u2).setCell ⟨k, 3, none⟩ u3).setCell ⟨k, 4, none⟩ u4) row :=
  grown_store (grown_store (grown_store (grown_store (grown_store h hk 0 u0) hk 1 u1) hk 2 u2) hk 3 u3) hk 4 u4
theorem SrcAt.store {w : World} {g : Nat} {b : Int} (h : SrcAt w g b) {k : Nat} (hk : g < k) (i : Nat) (v : Value) : SrcAt (w.setCell ⟨k, i, none⟩ v) g b :=
  h.far (row := some k) (grown_set (grown_of_below (Below.refl _ _) (some k)) i v) (fun r e => by have e2 : k = r := Option.some.inj e; omega)
theorem SrcAt.put {w : World} {g : Nat} {b : Int} (h : SrcAt w g b) {k : Nat} (hk : g < k) (u0 u1 u2 u3 u4 : Value) : SrcAt (((((w.setCell ⟨k, 0, none⟩ u0).setCell ⟨k, 1, none⟩ u1).setCell ⟨k, 2, none⟩ u2).setCell ⟨k, 3, none⟩ u3).setCell ⟨k, 4, none⟩ u4) g b :=
  ((((h.store hk 0 u0).store hk 1 u1).store hk 2 u2).store hk 3 u3).store hk 4 u4

theorem kept_put {A w : World} (h : Below A.heap.size A w) {k : Nat} (hk : A.heap.size ≤ k) (u0 u1 u2 u3 u4 : Value) : Below A.heap.size A (((((w.setCell ⟨k, 0, none⟩ u0).setCell ⟨k, 1, none⟩ u1).setCell ⟨k, 2, none⟩ u2).setCell ⟨k, 3, none⟩ u3).setCell ⟨k, 4, none⟩ u4) :=
  kept_set (kept_set (kept_set (kept_set (kept_set h (p := ⟨k, 0, none⟩) hk u0) (p := ⟨k, 1, none⟩) hk u1) (p := ⟨k, 2, none⟩) hk u2) (p := ⟨k, 3, none⟩) hk u3) (p := ⟨k, 4, none⟩) hk u4

end Go.Proofs.Ytkloolhngddpiaa
