/- More choices read from bytes: once in n times, one of some numbers. -/
import Derived.Test.YtkloolhngddpiaaSrcFrom
namespace Go.Proofs.Ytkloolhngddpiaa
open Go.RowKit Go.Deep
set_option linter.unusedVariables false
set_option maxRecDepth 100000

theorem grown_alloc {w w1 : World} {row : Option Nat} (h : w.grownBy w1 row) (o : Obj) : w.grownBy (w1.alloc o) row :=
  grown_trans h (grown_of_below (kept_alloc (Below.refl _ _) o) row)
theorem grown_refl (w : World) (row : Option Nat) : w.grownBy w row := grown_of_below (Below.refl _ _) row
theorem grown_drew {w w1 : World} {row : Option Nat} (h : w.grownBy w1 row) : w.grownBy w1.drew row := ⟨h.os, h.tape, h.output, h.size, h.block⟩
theorem grown_drewN {w w1 : World} {row : Option Nat} (h : w.grownBy w1 row) (n : Nat) : w.grownBy (w1.drewN n) row := ⟨h.os, h.tape, h.output, h.size, h.block⟩
theorem grown_cell {w w1 : World} {g k i : Nat} {v : Value} (h : w.grownBy w1 (some g)) (hne : k ≠ g) (hc : w.cell? ⟨k, i, none⟩ = some v) : w1.cell? ⟨k, i, none⟩ = some v :=
  (World.cell?_of_block (a := ⟨k, i, none⟩) (h.block k (World.block_lt_of_cell? w _ hc) (fun e => hne (Option.some.inj e)))).trans hc
theorem grown_free {w w1 : World} {g k i : Nat} (h : w.grownBy w1 (some g)) (hne : k ≠ g) (hk : k < w.heap.size) (hc : w.frozen? ⟨k, i, none⟩ = false) : w1.frozen? ⟨k, i, none⟩ = false := by
  unfold World.frozen? at hc ⊢
  rw [h.block k hk (fun e => hne (Option.some.inj e))]
  exact hc
/-- A literal's cells. -/
theorem lit_cells (w : World) (t : TypeId) (cs : List Int) {lo hi : Int} (h : ∀ y ∈ cs, lo ≤ y ∧ y ≤ hi) : ∀ i, i < cs.length → ∃ y : Int, (w.alloc (.cells (cs.map (Value.int .i64)).toArray t)).cell? ⟨w.heap.size, i, none⟩ = some (.int .i64 y) ∧ lo ≤ y ∧ y ≤ hi := by
  intro i hi'
  refine ⟨cs[i], boxed_at rfl ?_, h _ (List.getElem_mem hi')⟩
  simp [hi']

theorem src_one (g : Nat) (b m : Int) (w : World) (h : SrcAt w g b) (hb : b ≤ 999999990) (hm : 1 ≤ m ∧ m ≤ 65536) : Calls Try.prog 120 #[.pointer (some ⟨g, 0, none⟩), .int .i64 m] w fun e w' => ∃ B : Bool, e = .returned (.bool B) ∧ w.grownBy w' (some g) ∧ SrcAt w' g (b + 2) := by
  have HP := Lib.hid (src_pick g b m w h hb hm)
  clear h
  go_enter Try.func120, Try.ntmps120
  go_wp2_with (go_at_call 122; refine HP.out.mono ?_; rintro e w1 ⟨x, rfl, hx, hg1, hs1⟩)
  all_goals
    go_ret
    exact ⟨_, rfl, hg1, hs1⟩

end Go.Proofs.Ytkloolhngddpiaa
