/- More choices read from bytes: once in n times, one of some numbers. -/
import Derived.Test.YtmgbbfbalmlpiaaGreatDoorSrcFrom
namespace Go.Proofs.YtmgbbfbalmlpiaaGreatDoor
open Go.RowKit Go.Deep
set_option linter.unusedVariables false
set_option maxRecDepth 100000

theorem grown_alloc {w w1 : World} {row : Option Nat} (h : w.grownBy w1 row) (o : Obj) : w.grownBy (w1.alloc o) row :=
  grown_trans h (grown_of_below (kept_alloc (Below.refl _ _) o) row)
theorem grown_refl (w : World) (row : Option Nat) : w.grownBy w row := grown_of_below (Below.refl _ _) row
theorem grown_drew {w w1 : World} {row : Option Nat} (h : w.grownBy w1 row) : w.grownBy w1.drew row := ⟨h.os, h.tape, h.output, h.size, h.block⟩
theorem grown_drewN {w w1 : World} {row : Option Nat} (h : w.grownBy w1 row) (n : Nat) : w.grownBy (w1.drewN n) row := ⟨h.os, h.tape, h.output, h.size, h.block⟩
theorem grown_cell {w w1 : World} {g k i : Nat} {v : Value} (h : w.grownBy w1 (some g)) (hne : k ≠ g) (hc : w.cell? ⟨k, i, none⟩ = some v) : w1.cell? ⟨k, i, none⟩ = some v :=
  (World.cell?_of_block (a := ⟨k, i, none⟩) (h.block k (World.block_lt_of_cell? w _ hc) (fun e => hne (Option.some.inj e)))).trans hc
theorem grown_free {w w1 : World} {g k i : Nat} (h : w.grownBy w1 (some g)) (hne : k ≠ g) (hk : k < w.heap.size) (hc : w.frozen? ⟨k, i, none⟩ = false) : w1.frozen? ⟨k, i, none⟩ = false := by
  unfold World.frozen? at hc ⊢
  rw [h.block k hk (fun e => hne (Option.some.inj e))]
  exact hc
/-- A literal's cells. -/
theorem lit_cells (w : World) (t : TypeId) (cs : List Int) {lo hi : Int} (h : ∀ y ∈ cs, lo ≤ y ∧ y ≤ hi) : ∀ i, i < cs.length → ∃ y : Int, (w.alloc (.cells (cs.map (Value.int .i64)).toArray t)).cell? ⟨w.heap.size, i, none⟩ = some (.int .i64 y) ∧ lo ≤ y ∧ y ≤ hi := by
  intro i hi'
  refine ⟨cs[i], boxed_at rfl ?_, h _ (List.getElem_mem hi')⟩
  simp [hi']

theorem src_one (g : Nat) (b m : Int) (w : World) (h : SrcAt w g b) (hb : b ≤ 999999990) (hm : 1 ≤ m ∧ m ≤ 65536) : Calls Tryz.prog 37 #[.pointer (some ⟨g, 0, none⟩), .int .i64 m] w fun e w' => ∃ B : Bool, e = .returned (.bool B) ∧ w.grownBy w' (some g) ∧ SrcAt w' g (b + 2) := by
  have HP := Lib.hid (src_pick g b m w h hb hm)
  clear h
  go_enter Tryz.func37, Tryz.ntmps37
  go_wp2_with (go_at_call 17; refine HP.out.mono ?_; rintro e w1 ⟨x, rfl, hx, hg1, hs1⟩)
  all_goals
    go_ret
    exact ⟨_, rfl, hg1, hs1⟩

theorem src_among (g k n cap : Nat) (b lo hi : Int) (w : World) (h : SrcAt w g b) (hb : b ≤ 999999990) (hn : 1 ≤ n ∧ n ≤ 65536) (hk : k ≠ g) (hc : ∀ i, i < n → ∃ y : Int, w.cell? ⟨k, i, none⟩ = some (.int .i64 y) ∧ lo ≤ y ∧ y ≤ hi) :
    Calls Tryz.prog 27 #[.pointer (some ⟨g, 0, none⟩), .slice (some ⟨k, 0, none⟩) n cap] w fun e w' => ∃ x : Int, e = .returned (.int .i64 x) ∧ (lo ≤ x ∧ x ≤ hi) ∧ w.grownBy w' (some g) ∧ SrcAt w' g (b + 2) := by
  have HP := Lib.hid (src_pick g b n w h hb (by omega))
  have HC : Hid (∀ (x : Int), 0 ≤ x → x < n → ∀ w', w.grownBy w' (some g) → ∃ (i : Nat) (y : Int), x = i ∧ i < n ∧ w'.cell? ⟨k, i, none⟩ = some (.int .i64 y) ∧ lo ≤ y ∧ y ≤ hi) := fun x h0 h1 w' hg => by
    obtain ⟨y, q1, q2⟩ := hc x.toNat (by omega)
    exact ⟨x.toNat, y, by omega, by omega, grown_cell hg hk q1, q2⟩
  clear h hc
  go_enter Tryz.func27, Tryz.ntmps27
  go_wp2_with (go_at_call 17; refine HP.out.mono ?_; rintro e w1 ⟨x, rfl, hx, hg1, hs1⟩; obtain ⟨i, y, rfl, hi, hcy, hy0, hy1⟩ := HC.out x hx.1 hx.2 _ hg1)
  go_ret
  exact ⟨y, rfl, ⟨hy0, hy1⟩, hg1, hs1⟩

theorem d_Kilos (g : Nat) (b : Int) (w : World) (h : SrcAt w g b) (hb : b ≤ 900000000) : Calls Tryz.prog 16 #[.pointer (some ⟨g, 0, none⟩)] w fun e w' => ∃ x : Int, e = .returned (.int .i64 x) ∧ (-1 ≤ x ∧ x ≤ 100001) ∧ w.grownBy w' (some g) ∧ SrcAt w' g (b + 4) := by
  have HO := Lib.hid (src_one g b 9 w h (by omega) (by omega))
  clear h
  go_enter Tryz.func16, Tryz.ntmps16
  go_wp2_with (first
    | (go_at_call 27; refine (src_among g w1.heap.size 4 4 (b + 2) (-1) 100001 _ (hs1.kept (kept_alloc (Below.refl _ _) _)) (by omega) (by omega) (by have := hs1.1; omega) (lit_cells w1 _ [-1, 0, 100000, 100001] (by decide))).mono ?_; rintro e w2 ⟨x, rfl, hx, hg2, hs2⟩)
    | (go_at_call 17; refine (src_pick g (b + 2) 40 _ hs1 (by omega) (by omega)).mono ?_; rintro e w2 ⟨x, rfl, hx, hg2, hs2⟩)
    | (go_at_call 37; refine HO.out.mono ?_; rintro e w1 ⟨B, rfl, hg1, hs1⟩))
  all_goals
    go_ret
    first
      | exact ⟨_, rfl, by omega, grown_trans (grown_alloc hg1 _) hg2, hs2.le (by omega)⟩
      | exact ⟨_, rfl, by omega, grown_trans hg1 hg2, hs2.le (by omega)⟩

end Go.Proofs.YtmgbbfbalmlpiaaGreatDoor
