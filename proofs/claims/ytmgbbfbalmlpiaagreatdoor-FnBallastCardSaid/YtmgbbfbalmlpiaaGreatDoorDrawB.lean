/- A drawn basin and what is drawn beside it. Nothing is said of the numbers but their bounds. -/
import Derived.Test.YtmgbbfbalmlpiaaGreatDoorSrc2
import Derived.Test.YtmgbbfbalmlpiaaGreatDoorBox
import Derived.Deep.DeepCutAuto
namespace Go.Proofs.YtmgbbfbalmlpiaaGreatDoor
open Go.RowKit Go.Deep
set_option linter.unusedVariables false
set_option maxRecDepth 100000

theorem grown_store {w w1 : World} {row : Option Nat} (h : w.grownBy w1 row) {k : Nat} (hk : w.heap.size ≤ k) (i : Nat) (v : Value) : w.grownBy (w1.setCell ⟨k, i, none⟩ v) row :=
  ⟨h.os, h.tape, h.output, by simpa [World.setCell] using h.size, fun j hj hne => (Below.heap_setCell w1 ⟨k, i, none⟩ v j (by show j ≠ k; omega)).trans (h.block j hj hne)⟩
theorem SrcAt.store {w : World} {g : Nat} {b : Int} (h : SrcAt w g b) {k : Nat} (hk : g < k) (i : Nat) (v : Value) : SrcAt (w.setCell ⟨k, i, none⟩ v) g b :=
  h.far (row := some k) (grown_set (grown_of_below (Below.refl _ _) (some k)) i v) (fun r e => by have e2 : k = r := Option.some.inj e; omega)
theorem BoxAt.grown {w w1 : World} {g k : Nat} {a b c d : Value} (h : BoxAt w k a b c d) (hg : w.grownBy w1 (some g)) (hne : k ≠ g) : BoxAt w1 k a b c d :=
  ⟨Nat.lt_of_lt_of_le h.1 hg.size, grown_cell hg hne h.2.1, grown_cell hg hne h.2.2.1, grown_cell hg hne h.2.2.2.1, grown_cell hg hne h.2.2.2.2.1, fun i => grown_free hg hne h.1 (h.2.2.2.2.2 i)⟩
theorem BoxAt.other {w : World} {k k' : Nat} {a b c d : Value} (h : BoxAt w k a b c d) (hne : k' ≠ k) (j : Nat) (v : Value) : BoxAt (w.setCell ⟨k', j, none⟩ v) k a b c d := by
  have ho : ∀ i u, w.cell? ⟨k, i, none⟩ = some u → (w.setCell ⟨k', j, none⟩ v).cell? ⟨k, i, none⟩ = some u := fun i u hu => by
    rw [World.cell?_setCell_other _ _ _ _ (fun e => hne (congrArg (fun a : Addr => a.block) e))]; exact hu
  exact ⟨by simp; exact h.1, ho _ _ h.2.1, ho _ _ h.2.2.1, ho _ _ h.2.2.2.1, ho _ _ h.2.2.2.2.1, fun i => by rw [World.frozen?_setCell]; exact h.2.2.2.2.2 i⟩
theorem BoxAt.set0 {w : World} {k : Nat} {a b c d : Value} (h : BoxAt w k a b c d) (v : Value) : BoxAt (w.setCell ⟨k, 0, none⟩ v) k v b c d := by
  have ho : ∀ i u, i ≠ 0 → w.cell? ⟨k, i, none⟩ = some u → (w.setCell ⟨k, 0, none⟩ v).cell? ⟨k, i, none⟩ = some u := fun i u hi hu => by
    rw [World.cell?_setCell_other _ _ _ _ (by simp)]; exact hu
  exact ⟨by simp; exact h.1, World.cell?_setCell_same _ _ _ h.2.1, ho _ _ (by omega) h.2.2.1, ho _ _ (by omega) h.2.2.2.1, ho _ _ (by omega) h.2.2.2.2.1, fun i => by rw [World.frozen?_setCell]; exact h.2.2.2.2.2 i⟩
theorem BoxAt.set1 {w : World} {k : Nat} {a b c d : Value} (h : BoxAt w k a b c d) (v : Value) : BoxAt (w.setCell ⟨k, 1, none⟩ v) k a v c d := by
  have ho : ∀ i u, i ≠ 1 → w.cell? ⟨k, i, none⟩ = some u → (w.setCell ⟨k, 1, none⟩ v).cell? ⟨k, i, none⟩ = some u := fun i u hi hu => by
    rw [World.cell?_setCell_other _ _ _ _ (by simp)]; exact hu
  exact ⟨by simp; exact h.1, ho _ _ (by omega) h.2.1, World.cell?_setCell_same _ _ _ h.2.2.1, ho _ _ (by omega) h.2.2.2.1, ho _ _ (by omega) h.2.2.2.2.1, fun i => by rw [World.frozen?_setCell]; exact h.2.2.2.2.2 i⟩
theorem BoxAt.set2 {w : World} {k : Nat} {a b c d : Value} (h : BoxAt w k a b c d) (v : Value) : BoxAt (w.setCell ⟨k, 2, none⟩ v) k a b v d := by
  have ho : ∀ i u, i ≠ 2 → w.cell? ⟨k, i, none⟩ = some u → (w.setCell ⟨k, 2, none⟩ v).cell? ⟨k, i, none⟩ = some u := fun i u hi hu => by
    rw [World.cell?_setCell_other _ _ _ _ (by simp)]; exact hu
  exact ⟨by simp; exact h.1, ho _ _ (by omega) h.2.1, ho _ _ (by omega) h.2.2.1, World.cell?_setCell_same _ _ _ h.2.2.2.1, ho _ _ (by omega) h.2.2.2.2.1, fun i => by rw [World.frozen?_setCell]; exact h.2.2.2.2.2 i⟩
theorem BoxAt.set3 {w : World} {k : Nat} {a b c d : Value} (h : BoxAt w k a b c d) (v : Value) : BoxAt (w.setCell ⟨k, 3, none⟩ v) k a b c v := by
  have ho : ∀ i u, i ≠ 3 → w.cell? ⟨k, i, none⟩ = some u → (w.setCell ⟨k, 3, none⟩ v).cell? ⟨k, i, none⟩ = some u := fun i u hi hu => by
    rw [World.cell?_setCell_other _ _ _ _ (by simp)]; exact hu
  exact ⟨by simp; exact h.1, ho _ _ (by omega) h.2.1, ho _ _ (by omega) h.2.2.1, ho _ _ (by omega) h.2.2.2.1, World.cell?_setCell_same _ _ _ h.2.2.2.2.1, fun i => by rw [World.frozen?_setCell]; exact h.2.2.2.2.2 i⟩

theorem d_Grade (g : Nat) (b : Int) (w : World) (h : SrcAt w g b) (hb : b ≤ 900000000) : Calls Tryz.prog 18 #[.pointer (some ⟨g, 0, none⟩)] w fun e w' => ∃ x : Int, e = .returned (.int .i64 x) ∧ (0 ≤ x ∧ x ≤ 901) ∧ w.grownBy w' (some g) ∧ SrcAt w' g (b + 2) := by
  have HA := Lib.hid (src_among g w.heap.size 7 7 b 0 901 _ (h.kept (kept_alloc (Below.refl _ _) _)) (by omega) (by omega) (by have := h.1; omega) (lit_cells w 2 [1, 100, 250, 480, 900, 901, 0] (by decide)))
  clear h
  go_enter Tryz.func18, Tryz.ntmps18
  go_wp2_with (go_at_call 27; refine HA.out.mono ?_; rintro e w2 ⟨x, rfl, hx, hg2, hs2⟩)
  go_ret
  exact ⟨x, rfl, hx, grown_trans (grown_alloc (grown_refl _ _) _) hg2, hs2⟩

theorem d_Need (g : Nat) (b : Int) (w : World) (h : SrcAt w g b) (hb : b ≤ 900000000) : Calls Tryz.prog 19 #[.pointer (some ⟨g, 0, none⟩)] w fun e w' => ∃ x : Int, e = .returned (.int .i64 x) ∧ (-1 ≤ x ∧ x ≤ 1000001) ∧ w.grownBy w' (some g) ∧ SrcAt w' g (b + 4) := by
  have HO := Lib.hid (src_one g b 9 w h (by omega) (by omega))
  clear h
  go_enter Tryz.func19, Tryz.ntmps19
  go_wp2_with (first
    | (go_at_call 27; refine (src_among g w1.heap.size 4 4 (b + 2) (-1) 1000001 _ (hs1.kept (kept_alloc (Below.refl _ _) _)) (by omega) (by omega) (by have := hs1.1; omega) (lit_cells w1 _ [-1, 0, 1000000, 1000001] (by decide))).mono ?_; rintro e w2 ⟨x, rfl, hx, hg2, hs2⟩)
    | (go_at_call 17; refine (src_pick g (b + 2) 90 _ hs1 (by omega) (by omega)).mono ?_; rintro e w2 ⟨x, rfl, hx, hg2, hs2⟩)
    | (go_at_call 37; refine HO.out.mono ?_; rintro e w1 ⟨B, rfl, hg1, hs1⟩))
  all_goals
    go_ret
    first
      | exact ⟨_, rfl, by omega, grown_trans (grown_alloc hg1 _) hg2, hs2.le (by omega)⟩
      | exact ⟨_, rfl, by omega, grown_trans hg1 hg2, hs2.le (by omega)⟩

set_option maxHeartbeats 800000 in
theorem d_BasinOk (g : Nat) (b : Int) (W : World) (h : SrcAt W g b) (hb : b ≤ 900000000) : Calls Tryz.prog 36 #[.pointer (some ⟨g, 0, none⟩)] W fun e w' => ∃ t r s p : Int, e = .returned (.agg #[.int .i64 t, .int .i64 r, .int .i64 s, .int .i64 p]) ∧ ((-1 ≤ t ∧ t ≤ 10000001) ∧ (-1 ≤ r ∧ r ≤ 10000001) ∧ (-1 ≤ s ∧ s ≤ 10000001) ∧ (-1 ≤ p ∧ p ≤ 10000001)) ∧ W.grownBy w' (some g) ∧ SrcAt w' g (b + 8) := by
  have HP : Hid (∀ w c m, SrcAt w g c → c ≤ b + 100 → (1 ≤ m ∧ m ≤ 65536) → Calls Tryz.prog 17 #[.pointer (some ⟨g, 0, none⟩), .int .i64 m] w fun e w' => ∃ x : Int, e = .returned (.int .i64 x) ∧ (0 ≤ x ∧ x < m) ∧ w.grownBy w' (some g) ∧ SrcAt w' g (c + 2)) := fun w c m h1 h2 h3 => src_pick g c m w h1 (by omega) h3
  have hgl := h.1
  have HS0 : Hid (SrcAt (W.alloc (.cells #[.int .i64 0, .int .i64 0, .int .i64 0, .int .i64 0] 25)) g b) := h.kept (kept_alloc (Below.refl _ _) _)
  have r0 := BoxAt.new W (.int .i64 0) (.int .i64 0) (.int .i64 0) (.int .i64 0) 25
  have G0 : W.grownBy (W.alloc (.cells #[.int .i64 0, .int .i64 0, .int .i64 0, .int .i64 0] 25)) (some g) := grown_alloc (grown_refl _ _) _
  clear h
  go_enter Tryz.func36, Tryz.ntmps36
  go_upto_region 2 with (first
    | (go_at_call 17; refine (HP.out _ _ _ hs1 (by omega) (by omega)).mono ?_; rintro e w2 ⟨x2, rfl, hx2, hg2, hs2⟩; have G2 := grown_trans G1 hg2; have r2 := r1.grown hg2 (by omega))
    | (go_at_call 17; refine (HP.out _ _ _ HS0.out (by omega) (by omega)).mono ?_; rintro e w1 ⟨x1, rfl, hx1, hg1, hs1⟩; have G1 := grown_trans G0 hg1; have r1 := r0.grown hg1 (by omega)))
  have hsz0 : W.heap.size < w2.heap.size := by have := hg1.size; have := hg2.size; simp at *; omega
  have rB := BoxAt.new w2 (.int .i64 (1000 + 500 * x1)) (.int .i64 (5 + 5 * x2)) (.int .i64 0) (.int .i64 0) 25
  have r3 := r2.kept (kept_alloc (Below.refl w2.heap.size w2) (.cells #[.int .i64 (1000 + 500 * x1), .int .i64 (5 + 5 * x2), .int .i64 0, .int .i64 0] 25))
  have G3 := grown_alloc G2 (.cells #[.int .i64 (1000 + 500 * x1), .int .i64 (5 + 5 * x2), .int .i64 0, .int .i64 0] 25)
  have hs3 := hs2.kept (kept_alloc (Below.refl w2.heap.size w2) (.cells #[.int .i64 (1000 + 500 * x1), .int .i64 (5 + 5 * x2), .int .i64 0, .int .i64 0] 25))
  have hbg : g < w2.heap.size := hs2.1
  clear r0 r1 r2 G0 G1 G2 HS0 hs1 hs2 hg1 hg2
  go_upto_region 3 with (go_at_call 17; refine (HP.out _ _ _ hs3 (by omega) (by omega)).mono ?_; rintro e w3 ⟨x3, rfl, hx3, hg3, hs4⟩; have G4 := grown_trans G3 hg3; have r4 := r3.grown hg3 (by omega); have rB4 := rB.grown hg3 (by omega); obtain ⟨-, q0, q1, q2, q3, qf⟩ := id rB4; have qf2 := qf 2)
  have G5 := grown_store G4 (show W.heap.size ≤ w2.heap.size by omega) 2 (.int .i64 (1000 * x3))
  have r5 := r4.other (show w2.heap.size ≠ W.heap.size by omega) 2 (.int .i64 (1000 * x3))
  have rB5 := rB4.set2 (.int .i64 (1000 * x3))
  have hs5 := hs4.store hbg 2 (.int .i64 (1000 * x3))
  clear r3 G3 hs3 rB G4 r4 rB4 q0 q1 q2 q3 qf qf2 hg3 hs4
  go_upto_region 4 with (go_at_call 17; refine (HP.out _ _ _ hs5 (by omega) (by omega)).mono ?_; rintro e w4 ⟨x4, rfl, hx4, hg4, hs6⟩; have G6 := grown_trans G5 hg4; have r6 := r5.grown hg4 (by omega); have rB6 := rB5.grown hg4 (by omega); obtain ⟨-, q0, q1, q2, q3, qf⟩ := id rB6; have qf3 := qf 3)
  have G7 := grown_store G6 (show W.heap.size ≤ w2.heap.size by omega) 3 (.int .i64 (20 * x4))
  have r7 := r6.other (show w2.heap.size ≠ W.heap.size by omega) 3 (.int .i64 (20 * x4))
  have rB7 := rB6.set3 (.int .i64 (20 * x4))
  have hs7 := hs6.store hbg 3 (.int .i64 (20 * x4))
  clear r5 G5 hs5 rB5 G6 r6 rB6 q0 q1 q2 q3 qf qf3 hg4 hs6
  obtain ⟨-, m0, m1, m2, m3, -⟩ := id rB7
  obtain ⟨-, y0, y1, y2, y3, yf⟩ := id r7
  have f0 := yf 0
  have f1 := yf 1
  have f2 := yf 2
  have f3 := yf 3
  generalize w4.setCell ⟨w2.heap.size, 3, none⟩ (.int .i64 (20 * x4)) = w5 at *
  go_wp2
  refine bodyPost_ret (v := .agg #[.int .i64 (1000 + 500 * x1), .int .i64 (5 + 5 * x2), .int .i64 (1000 * x3), .int .i64 (20 * x4)]) (by simp [results, go_sem, y0, y1, y2, y3]) rfl ⟨_, _, _, _, rfl, by omega, ?_, ?_⟩
  · exact grown_store (grown_store (grown_store (grown_store G7 (Nat.le_refl _) _ _) (Nat.le_refl _) _ _) (Nat.le_refl _) _ _) (Nat.le_refl _) _ _
  · exact ((((hs7.store hgl _ _).store hgl _ _).store hgl _ _).store hgl _ _).le (by omega)

set_option maxHeartbeats 1600000 in
theorem d_Basin (g : Nat) (b : Int) (W : World) (h : SrcAt W g b) (hb : b ≤ 800000000) : Calls Tryz.prog 15 #[.pointer (some ⟨g, 0, none⟩)] W fun e w' => ∃ t r s p : Int, e = .returned (.agg #[.int .i64 t, .int .i64 r, .int .i64 s, .int .i64 p]) ∧ ((-1 ≤ t ∧ t ≤ 10000001) ∧ (-1 ≤ r ∧ r ≤ 10000001) ∧ (-1 ≤ s ∧ s ≤ 10000001) ∧ (-1 ≤ p ∧ p ≤ 10000001)) ∧ W.grownBy w' (some g) ∧ SrcAt w' g (b + 12) := by
  have hgl := h.1
  have HS0 : Hid (SrcAt (W.alloc (.cells #[.int .i64 0, .int .i64 0, .int .i64 0, .int .i64 0] 25)) g b) := h.kept (kept_alloc (Below.refl _ _) _)
  have r0 := BoxAt.new W (.int .i64 0) (.int .i64 0) (.int .i64 0) (.int .i64 0) 25
  have G0 : W.grownBy (W.alloc (.cells #[.int .i64 0, .int .i64 0, .int .i64 0, .int .i64 0] 25)) (some g) := grown_alloc (grown_refl _ _) _
  clear h
  go_enter Tryz.func15, Tryz.ntmps15
  go_upto_region 2 with (go_at_call 36; refine (d_BasinOk g b _ HS0.out (by omega)).mono ?_; rintro e w1 ⟨t, r, s, p, rfl, hbd, hg1, hs1⟩; have G1 := grown_trans G0 hg1; have r1 := r0.grown hg1 (by omega))
  have hsz0 : W.heap.size < w1.heap.size := by have := hg1.size; simp at *; omega
  have rB := BoxAt.new w1 (.int .i64 t) (.int .i64 r) (.int .i64 s) (.int .i64 p) 25
  have r2 := r1.kept (kept_alloc (Below.refl w1.heap.size w1) (.cells #[.int .i64 t, .int .i64 r, .int .i64 s, .int .i64 p] 25))
  have G2 := grown_alloc G1 (.cells #[.int .i64 t, .int .i64 r, .int .i64 s, .int .i64 p] 25)
  have hs2 := hs1.kept (kept_alloc (Below.refl w1.heap.size w1) (.cells #[.int .i64 t, .int .i64 r, .int .i64 s, .int .i64 p] 25))
  have hbg : g < w1.heap.size := hs1.1
  clear r0 r1 G0 G1 HS0 hs1 hg1
  go_upto_region 3 with (go_at_call 17; refine (src_pick g (b + 8) 20 _ hs2 (by omega) (by omega)).mono ?_; rintro e w3 ⟨x3, rfl, hx3, hg3, hs3x⟩)
  have hs3 : SrcAt w3 g (b + 10) := hs3x.le (by omega)
  clear hs3x
  have G3 := grown_trans G2 hg3
  have r3 := r2.grown hg3 (by omega)
  have rB3 := rB.grown hg3 (by omega)
  have hz3 : w1.heap.size < w3.heap.size := rB3.1
  clear r2 rB G2 hs2 hg3
  have HA1 := Lib.hid (src_among g w3.heap.size 4 4 (b + 10) (-1) 10000001 _ (hs3.kept (kept_alloc (Below.refl _ _) _)) (by omega) (by omega) (by have := hs3.1; omega) (lit_cells w3 2 [0, 1, 20000, 20001] (by decide)))
  have HA2 := Lib.hid (src_among g w3.heap.size 4 4 (b + 10) (-1) 10000001 _ (hs3.kept (kept_alloc (Below.refl _ _) _)) (by omega) (by omega) (by have := hs3.1; omega) (lit_cells w3 2 [0, 1, 1000, 1001] (by decide)))
  have HA3 := Lib.hid (src_among g w3.heap.size 4 4 (b + 10) (-1) 10000001 _ (hs3.kept (kept_alloc (Below.refl _ _) _)) (by omega) (by omega) (by have := hs3.1; omega) (lit_cells w3 2 [-1, 0, 10000000, 10000001] (by decide)))
  have HA4 := Lib.hid (src_among g w3.heap.size 4 4 (b + 10) (-1) 10000001 _ (hs3.kept (kept_alloc (Below.refl _ _) _)) (by omega) (by omega) (by have := hs3.1; omega) (lit_cells w3 2 [-1, 0, 1000, 1001] (by decide)))
  have KK : ∀ (o : Obj) (w4 : World), (w3.alloc o).grownBy w4 (some g) → W.grownBy w4 (some g) ∧ BoxAt w4 W.heap.size (.int .i64 0) (.int .i64 0) (.int .i64 0) (.int .i64 0) ∧ BoxAt w4 w1.heap.size (.int .i64 t) (.int .i64 r) (.int .i64 s) (.int .i64 p) := fun o w4 hg => ⟨grown_trans (grown_alloc G3 o) hg, (r3.kept (kept_alloc (Below.refl _ _) o)).grown hg (by omega), (rB3.kept (kept_alloc (Below.refl _ _) o)).grown hg (by omega)⟩
  have HKK := Lib.hid KK
  clear KK
  rcases (show x3 ≤ 0 ∨ (1 ≤ x3 ∧ x3 ≤ 1) ∨ (2 ≤ x3 ∧ x3 ≤ 2) ∨ (3 ≤ x3 ∧ x3 ≤ 3) ∨ 4 ≤ x3 by omega) with hc | hc | hc | hc | hc
  · clear HA2 HA3 HA4
    go_upto_region 11 with (go_at_call 27; refine HA1.out.mono ?_; rintro e w4 ⟨y, rfl, hy, hg4, hs4⟩; obtain ⟨G4, r4, rB4⟩ := HKK.out _ _ hg4; obtain ⟨-, q0, q1, q2, q3, qf⟩ := id rB4; have qf0 := qf 0)
    have G5 := grown_store G4 (show W.heap.size ≤ w1.heap.size by omega) 0 (.int .i64 y)
    have r5 := r4.other (show w1.heap.size ≠ W.heap.size by omega) 0 (.int .i64 y)
    have rB5 := rB4.set0 (.int .i64 y)
    have hs5 := hs4.store hbg 0 (.int .i64 y)
    clear G4 r4 rB4 q0 q1 q2 q3 qf qf0 hg4 hs4 HKK G3 r3 rB3 hs3
    generalize w4.setCell ⟨w1.heap.size, 0, none⟩ (.int .i64 y) = w5 at *
    obtain ⟨-, m0, m1, m2, m3, -⟩ := id rB5
    obtain ⟨-, y0, y1, y2, y3, yf⟩ := id r5
    have f0 := yf 0
    have f1 := yf 1
    have f2 := yf 2
    have f3 := yf 3
    go_wp2
    refine bodyPost_ret (v := .agg #[.int .i64 y, .int .i64 r, .int .i64 s, .int .i64 p]) (by simp [results, go_sem, y0, y1, y2, y3]) rfl ⟨_, _, _, _, rfl, by omega, ?_, ?_⟩
    · exact grown_store (grown_store (grown_store (grown_store G5 (Nat.le_refl _) _ _) (Nat.le_refl _) _ _) (Nat.le_refl _) _ _) (Nat.le_refl _) _ _
    · exact ((((hs5.store hgl _ _).store hgl _ _).store hgl _ _).store hgl _ _).le (by omega)
  · clear HA1 HA3 HA4
    go_upto_region 11 with (go_at_call 27; refine HA2.out.mono ?_; rintro e w4 ⟨y, rfl, hy, hg4, hs4⟩; obtain ⟨G4, r4, rB4⟩ := HKK.out _ _ hg4; obtain ⟨-, q0, q1, q2, q3, qf⟩ := id rB4; have qf1 := qf 1)
    have G5 := grown_store G4 (show W.heap.size ≤ w1.heap.size by omega) 1 (.int .i64 y)
    have r5 := r4.other (show w1.heap.size ≠ W.heap.size by omega) 1 (.int .i64 y)
    have rB5 := rB4.set1 (.int .i64 y)
    have hs5 := hs4.store hbg 1 (.int .i64 y)
    clear G4 r4 rB4 q0 q1 q2 q3 qf qf1 hg4 hs4 HKK G3 r3 rB3 hs3
    generalize w4.setCell ⟨w1.heap.size, 1, none⟩ (.int .i64 y) = w5 at *
    obtain ⟨-, m0, m1, m2, m3, -⟩ := id rB5
    obtain ⟨-, y0, y1, y2, y3, yf⟩ := id r5
    have f0 := yf 0
    have f1 := yf 1
    have f2 := yf 2
    have f3 := yf 3
    go_wp2
    refine bodyPost_ret (v := .agg #[.int .i64 t, .int .i64 y, .int .i64 s, .int .i64 p]) (by simp [results, go_sem, y0, y1, y2, y3]) rfl ⟨_, _, _, _, rfl, by omega, ?_, ?_⟩
    · exact grown_store (grown_store (grown_store (grown_store G5 (Nat.le_refl _) _ _) (Nat.le_refl _) _ _) (Nat.le_refl _) _ _) (Nat.le_refl _) _ _
    · exact ((((hs5.store hgl _ _).store hgl _ _).store hgl _ _).store hgl _ _).le (by omega)
  · clear HA1 HA2 HA4
    go_upto_region 11 with (go_at_call 27; refine HA3.out.mono ?_; rintro e w4 ⟨y, rfl, hy, hg4, hs4⟩; obtain ⟨G4, r4, rB4⟩ := HKK.out _ _ hg4; obtain ⟨-, q0, q1, q2, q3, qf⟩ := id rB4; have qf2 := qf 2)
    have G5 := grown_store G4 (show W.heap.size ≤ w1.heap.size by omega) 2 (.int .i64 y)
    have r5 := r4.other (show w1.heap.size ≠ W.heap.size by omega) 2 (.int .i64 y)
    have rB5 := rB4.set2 (.int .i64 y)
    have hs5 := hs4.store hbg 2 (.int .i64 y)
    clear G4 r4 rB4 q0 q1 q2 q3 qf qf2 hg4 hs4 HKK G3 r3 rB3 hs3
    generalize w4.setCell ⟨w1.heap.size, 2, none⟩ (.int .i64 y) = w5 at *
    obtain ⟨-, m0, m1, m2, m3, -⟩ := id rB5
    obtain ⟨-, y0, y1, y2, y3, yf⟩ := id r5
    have f0 := yf 0
    have f1 := yf 1
    have f2 := yf 2
    have f3 := yf 3
    go_wp2
    refine bodyPost_ret (v := .agg #[.int .i64 t, .int .i64 r, .int .i64 y, .int .i64 p]) (by simp [results, go_sem, y0, y1, y2, y3]) rfl ⟨_, _, _, _, rfl, by omega, ?_, ?_⟩
    · exact grown_store (grown_store (grown_store (grown_store G5 (Nat.le_refl _) _ _) (Nat.le_refl _) _ _) (Nat.le_refl _) _ _) (Nat.le_refl _) _ _
    · exact ((((hs5.store hgl _ _).store hgl _ _).store hgl _ _).store hgl _ _).le (by omega)
  · clear HA1 HA2 HA3
    go_upto_region 11 with (go_at_call 27; refine HA4.out.mono ?_; rintro e w4 ⟨y, rfl, hy, hg4, hs4⟩; obtain ⟨G4, r4, rB4⟩ := HKK.out _ _ hg4; obtain ⟨-, q0, q1, q2, q3, qf⟩ := id rB4; have qf3 := qf 3)
    have G5 := grown_store G4 (show W.heap.size ≤ w1.heap.size by omega) 3 (.int .i64 y)
    have r5 := r4.other (show w1.heap.size ≠ W.heap.size by omega) 3 (.int .i64 y)
    have rB5 := rB4.set3 (.int .i64 y)
    have hs5 := hs4.store hbg 3 (.int .i64 y)
    clear G4 r4 rB4 q0 q1 q2 q3 qf qf3 hg4 hs4 HKK G3 r3 rB3 hs3
    generalize w4.setCell ⟨w1.heap.size, 3, none⟩ (.int .i64 y) = w5 at *
    obtain ⟨-, m0, m1, m2, m3, -⟩ := id rB5
    obtain ⟨-, y0, y1, y2, y3, yf⟩ := id r5
    have f0 := yf 0
    have f1 := yf 1
    have f2 := yf 2
    have f3 := yf 3
    go_wp2
    refine bodyPost_ret (v := .agg #[.int .i64 t, .int .i64 r, .int .i64 s, .int .i64 y]) (by simp [results, go_sem, y0, y1, y2, y3]) rfl ⟨_, _, _, _, rfl, by omega, ?_, ?_⟩
    · exact grown_store (grown_store (grown_store (grown_store G5 (Nat.le_refl _) _ _) (Nat.le_refl _) _ _) (Nat.le_refl _) _ _) (Nat.le_refl _) _ _
    · exact ((((hs5.store hgl _ _).store hgl _ _).store hgl _ _).store hgl _ _).le (by omega)
  · clear HA1 HA2 HA3 HA4 HKK
    go_upto_region 11 with (fail)
    have G5 := G3
    have r5 := r3
    have rB5 := rB3
    have hs5 := hs3
    obtain ⟨-, m0, m1, m2, m3, -⟩ := id rB5
    obtain ⟨-, y0, y1, y2, y3, yf⟩ := id r5
    have f0 := yf 0
    have f1 := yf 1
    have f2 := yf 2
    have f3 := yf 3
    go_wp2
    refine bodyPost_ret (v := .agg #[.int .i64 t, .int .i64 r, .int .i64 s, .int .i64 p]) (by simp [results, go_sem, y0, y1, y2, y3]) rfl ⟨_, _, _, _, rfl, by omega, ?_, ?_⟩
    · exact grown_store (grown_store (grown_store (grown_store G5 (Nat.le_refl _) _ _) (Nat.le_refl _) _ _) (Nat.le_refl _) _ _) (Nat.le_refl _) _ _
    · exact ((((hs5.store hgl _ _).store hgl _ _).store hgl _ _).store hgl _ _).le (by omega)

end Go.Proofs.YtmgbbfbalmlpiaaGreatDoor
