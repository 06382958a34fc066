/- A drawn fare: nothing is said of it but its name. -/
import Derived.Test.YtjmklkhdemolmaaGreatDoorMrgB
namespace Go.Proofs.YtjmklkhdemolmaaGreatDoor
open Go.RowKit Go.Deep
set_option linter.unusedVariables false
set_option maxRecDepth 100000

theorem lit_strs (w : World) (t : TypeId) (cs : List ByteArray) {m : Nat} (h : ∀ y ∈ cs, y.size ≤ m) : ∀ i, i < cs.length → ∃ y : ByteArray, (w.alloc (.cells (cs.map Value.string).toArray t)).cell? ⟨w.heap.size, i, none⟩ = some (.string y) ∧ y.size ≤ m := by
  intro i hi'
  refine ⟨cs[i], boxed_at rfl ?_, h _ (List.getElem_mem hi')⟩
  simp [hi']

theorem src_text (g k n cap m : Nat) (b : Int) (w : World) (h : SrcAt w g b) (hb : b ≤ 999999990) (hn : 1 ≤ n ∧ n ≤ 65536) (hk : k ≠ g) (hc : ∀ i, i < n → ∃ y : ByteArray, w.cell? ⟨k, i, none⟩ = some (.string y) ∧ y.size ≤ m) :
    Calls Tryz.prog 41 #[.pointer (some ⟨g, 0, none⟩), .slice (some ⟨k, 0, none⟩) n cap] w fun e w' => ∃ x : ByteArray, e = .returned (.string x) ∧ x.size ≤ m ∧ w.grownBy w' (some g) ∧ SrcAt w' g (b + 2) := by
  have HP := Lib.hid (src_pick g b n w h hb (by omega))
  have HC : Hid (∀ (x : Int), 0 ≤ x → x < n → ∀ w', w.grownBy w' (some g) → ∃ (i : Nat) (y : ByteArray), x = i ∧ i < n ∧ w'.cell? ⟨k, i, none⟩ = some (.string y) ∧ y.size ≤ m) := fun x h0 h1 w' hg => by
    obtain ⟨y, q1, q2⟩ := hc x.toNat (by omega)
    exact ⟨x.toNat, y, by omega, by omega, grown_cell hg hk q1, q2⟩
  clear h hc
  go_enter Tryz.func41, Tryz.ntmps41
  go_wp2_with (go_at_call 15; refine HP.out.mono ?_; rintro e w1 ⟨x, rfl, hx, hg1, hs1⟩; obtain ⟨i, y, rfl, hi, hcy, hy0⟩ := HC.out x hx.1 hx.2 _ hg1)
  go_ret
  exact ⟨y, rfl, hy0, hg1, hs1⟩

theorem d_FareId (g : Nat) (b : Int) (w : World) (h : SrcAt w g b) (hb : b ≤ 900000000) : Calls Tryz.prog 23 #[.pointer (some ⟨g, 0, none⟩)] w fun e w' => ∃ x : ByteArray, e = .returned (.string x) ∧ x.size ≤ 10 ∧ w.grownBy w' (some g) ∧ SrcAt w' g (b + 2) := by
  have HA := Lib.hid (src_text g w.heap.size 5 5 10 b _ (h.kept (kept_alloc (Below.refl _ _) _)) (by omega) (by omega) (by have := h.1; omega) (lit_strs w 9 [⟨#[100, 97, 121]⟩, ⟨#[109, 111, 110, 116, 104]⟩, ⟨#[115, 105, 110, 103, 108, 101]⟩, ⟨#[116, 101, 110]⟩, ⟨#[119, 101, 101, 107]⟩] (by decide)))
  clear h
  go_enter Tryz.func23, Tryz.ntmps23
  go_wp2_with (go_at_call 41; refine HA.out.mono ?_; rintro e w2 ⟨x, rfl, hx, hg2, hs2⟩)
  go_ret
  exact ⟨x, rfl, hx, grown_trans (grown_alloc (grown_refl _ _) _) hg2, hs2⟩

set_option maxHeartbeats 1600000 in
theorem d_FareOneB (g : Nat) (b : Int) (nm : ByteArray) (W : World) (h : SrcAt W g b) (hb : b ≤ 900000000) : Calls Tryz.prog 26 #[.pointer (some ⟨g, 0, none⟩), .string nm] W fun e w' => ∃ x y u : Int, e = .returned (.agg #[.string nm, .int .i64 x, .int .i64 y, .int .i64 u]) ∧ ((0 ≤ x ∧ x ≤ 1000000) ∧ (0 ≤ y ∧ y ≤ 1000000) ∧ (0 ≤ u ∧ u ≤ 1000000)) ∧ W.grownBy w' (some g) ∧ SrcAt w' g (b + 6) := by
  have hgl := h.1
  have HS0 : Hid (SrcAt (W.alloc (.cells #[.string ⟨#[]⟩, .int .i64 0, .int .i64 0, .int .i64 0] 32)) g b) := h.kept (kept_alloc (Below.refl _ _) _)
  have r0 := BoxAt.new W (.string ⟨#[]⟩) (.int .i64 0) (.int .i64 0) (.int .i64 0) 32
  have G0 : W.grownBy (W.alloc (.cells #[.string ⟨#[]⟩, .int .i64 0, .int .i64 0, .int .i64 0] 32)) (some g) := grown_alloc (grown_refl _ _) _
  clear h
  go_enter Tryz.func26, Tryz.ntmps26
  go_upto_region 2 with (first
    | (go_at_call 16; refine (src_among g w1.heap.size 6 6 (b + 2) 1 40 _ (hs1.kept (kept_alloc (Below.refl _ _) _)) (by omega) (by omega) (by have := hs1.1; omega) (lit_cells w1 _ [1, 1, 2, 5, 10, 40] (by decide))).mono ?_; rintro e w2 ⟨y, rfl, hy, hg2, hs2⟩)
    | (go_at_call 15; refine (src_pick g b 60 _ HS0.out (by omega) (by omega)).mono ?_; rintro e w1 ⟨x, rfl, hx, hg1, hs1⟩))
  have G2 := grown_trans (grown_alloc (grown_trans G0 hg1) (.cells #[.int .i64 1, .int .i64 1, .int .i64 2, .int .i64 5, .int .i64 10, .int .i64 40] 2)) hg2
  have r2 := ((r0.grown hg1 (by omega)).kept (kept_alloc (Below.refl _ _) (.cells #[.int .i64 1, .int .i64 1, .int .i64 2, .int .i64 5, .int .i64 10, .int .i64 40] 2))).grown hg2 (by omega)
  have hz2 : g < w2.heap.size ∧ W.heap.size < w2.heap.size := ⟨hs2.1, r2.1⟩
  clear r0 G0 HS0 hg1 hs1 hg2
  have rB := BoxAt.new w2 (.string nm) (.int .i64 (100 + 50 * x)) (.int .i64 y) (.int .i64 0) 32
  have r3 := r2.kept (kept_alloc (Below.refl w2.heap.size w2) (.cells #[.string nm, .int .i64 (100 + 50 * x), .int .i64 y, .int .i64 0] 32))
  have G3 := grown_alloc G2 (.cells #[.string nm, .int .i64 (100 + 50 * x), .int .i64 y, .int .i64 0] 32)
  have hs3 := hs2.kept (kept_alloc (Below.refl w2.heap.size w2) (.cells #[.string nm, .int .i64 (100 + 50 * x), .int .i64 y, .int .i64 0] 32))
  clear r2 G2 hs2
  generalize w2.heap.size = bx at *
  generalize w2.alloc (.cells #[.string nm, .int .i64 (100 + 50 * x), .int .i64 y, .int .i64 0] 32) = w3 at *
  have HA := Lib.hid (src_among g w3.heap.size 5 5 (b + 2 + 2) 1 400 _ (hs3.kept (kept_alloc (Below.refl _ _) _)) (by omega) (by omega) (by have := hs3.1; omega) (lit_cells w3 2 [1, 3, 7, 30, 400] (by decide)))
  have HKK : Hid (∀ (o : Obj) (w4 : World), (w3.alloc o).grownBy w4 (some g) → W.grownBy w4 (some g) ∧ BoxAt w4 W.heap.size (.string ⟨#[]⟩) (.int .i64 0) (.int .i64 0) (.int .i64 0) ∧ BoxAt w4 bx (.string nm) (.int .i64 (100 + 50 * x)) (.int .i64 y) (.int .i64 0)) := fun o w4 hg => ⟨grown_trans (grown_alloc G3 o) hg, (r3.kept (kept_alloc (Below.refl _ _) o)).grown hg (by omega), (rB.kept (kept_alloc (Below.refl _ _) o)).grown hg (by omega)⟩
  go_upto_region 3 with (go_at_call 16; go_loud (refine HA.out.mono ?_; rintro e w4 ⟨u, rfl, hu, hg4, hs4⟩; obtain ⟨G4', r4, rB4⟩ := HKK.out _ _ hg4; obtain ⟨-, q0, q1, q2, q3, qf⟩ := id rB4; have qf3 := qf 3))
  have G4 := grown_store G4' (show W.heap.size ≤ bx by omega) 3 (.int .i64 u)
  have r5 := r4.other (show bx ≠ W.heap.size by omega) 3 (.int .i64 u)
  have rB5 := rB4.set3 (.int .i64 u)
  have hs5 := hs4.store hz2.1 3 (.int .i64 u)
  clear r3 G3 hs3 rB HKK HA G4' r4 rB4 q0 q1 q2 q3 qf qf3 hg4 hs4
  obtain ⟨-, m0, m1, m2, m3, -⟩ := id rB5
  obtain ⟨-, y0, y1, y2, y3, yf⟩ := id r5
  have f0 := yf 0
  have f1 := yf 1
  have f2 := yf 2
  have f3 := yf 3
  generalize w4.setCell ⟨bx, 3, none⟩ (.int .i64 u) = w5 at *
  go_wp2
  refine bodyPost_ret (v := .agg #[.string nm, .int .i64 (100 + 50 * x), .int .i64 y, .int .i64 u]) (by simp [results, go_sem, y0, y1, y2, y3]) rfl ⟨_, _, _, rfl, ⟨by omega, by omega, by omega⟩, ?_, ?_⟩
  · exact grown_store (grown_store (grown_store (grown_store G4 (Nat.le_refl _) _ _) (Nat.le_refl _) _ _) (Nat.le_refl _) _ _) (Nat.le_refl _) _ _
  · exact ((((hs5.store hgl _ _).store hgl _ _).store hgl _ _).store hgl _ _).le (by omega)

theorem d_FareOne (g : Nat) (b : Int) (nm : ByteArray) (W : World) (h : SrcAt W g b) (hb : b ≤ 900000000) : Calls Tryz.prog 26 #[.pointer (some ⟨g, 0, none⟩), .string nm] W fun e w' => ∃ x y u : Int, e = .returned (.agg #[.string nm, .int .i64 x, .int .i64 y, .int .i64 u]) ∧ W.grownBy w' (some g) ∧ SrcAt w' g (b + 6) :=
  (d_FareOneB g b nm W h hb).mono fun _ _ ⟨x, y, u, h1, _, h3⟩ => ⟨x, y, u, h1, h3⟩

set_option maxHeartbeats 1600000 in
theorem d_FareBent (g : Nat) (b : Int) (nm : ByteArray) (x y u : Int) (W : World) (h : SrcAt W g b) (hb : b ≤ 900000000) : Calls Tryz.prog 33 #[.pointer (some ⟨g, 0, none⟩), .agg #[.string nm, .int .i64 x, .int .i64 y, .int .i64 u]] W fun e w' => ∃ x y u : Int, e = .returned (.agg #[.string nm, .int .i64 x, .int .i64 y, .int .i64 u]) ∧ W.grownBy w' (some g) ∧ SrcAt w' g (b + 6) := by
  have hgl := h.1
  have hz : (W.alloc (.cells #[.string nm, .int .i64 x, .int .i64 y, .int .i64 u] 32)).heap.size = W.heap.size + 1 := by simp
  have hs0 := (h.kept (kept_alloc (Below.refl _ _) (.cells #[.string nm, .int .i64 x, .int .i64 y, .int .i64 u] 32))).kept (kept_alloc (Below.refl _ _) (.cells #[.string ⟨#[]⟩, .int .i64 0, .int .i64 0, .int .i64 0] 32))
  have rX0 := (BoxAt.new W (.string nm) (.int .i64 x) (.int .i64 y) (.int .i64 u) 32).kept (kept_alloc (Below.refl _ _) (.cells #[.string ⟨#[]⟩, .int .i64 0, .int .i64 0, .int .i64 0] 32))
  have rZ0 := BoxAt.new (W.alloc (.cells #[.string nm, .int .i64 x, .int .i64 y, .int .i64 u] 32)) (.string ⟨#[]⟩) (.int .i64 0) (.int .i64 0) (.int .i64 0) 32
  have G0 : W.grownBy ((W.alloc (.cells #[.string nm, .int .i64 x, .int .i64 y, .int .i64 u] 32)).alloc (.cells #[.string ⟨#[]⟩, .int .i64 0, .int .i64 0, .int .i64 0] 32)) (some g) := grown_alloc (grown_alloc (grown_refl _ _) _) _
  rw [hz] at rZ0
  have HS0 := Lib.hid hs0
  clear h hz hs0
  go_enter Tryz.func33, Tryz.ntmps33
  go_upto_region 2 with (go_at_call 15; refine (src_pick g b 18 _ HS0.out (by omega) (by omega)).mono ?_; rintro e w1 ⟨x5, rfl, hx5, hg1, hs1⟩)
  have G1 := grown_trans G0 hg1
  have rX := rX0.grown hg1 (by omega)
  have rZ := rZ0.grown hg1 (by omega)
  clear rX0 rZ0 G0 hg1 HS0
  have HKK : Hid (∀ (o : Obj) (w4 : World), (w1.alloc o).grownBy w4 (some g) → W.grownBy w4 (some g) ∧ BoxAt w4 W.heap.size (.string nm) (.int .i64 x) (.int .i64 y) (.int .i64 u) ∧ BoxAt w4 (W.heap.size + 1) (.string ⟨#[]⟩) (.int .i64 0) (.int .i64 0) (.int .i64 0)) := fun o w4 hg => ⟨grown_trans (grown_alloc G1 o) hg, (rX.kept (kept_alloc (Below.refl _ _) o)).grown hg (by omega), (rZ.kept (kept_alloc (Below.refl _ _) o)).grown hg (by omega)⟩
  rcases (show x5 ≤ 0 ∨ (1 ≤ x5 ∧ x5 ≤ 1) ∨ (2 ≤ x5 ∧ x5 ≤ 2) ∨ 3 ≤ x5 by omega) with hc | hc | hc | hc
  · have HA := Lib.hid (src_among g w1.heap.size 4 4 (b + 2) (-1) 100001 _ (hs1.kept (kept_alloc (Below.refl _ _) _)) (by omega) (by omega) (by have := hs1.1; omega) (lit_cells w1 2 [-1, 0, 100000, 100001] (by decide)))
    go_upto_region 8 with (go_at_call 16; refine HA.out.mono ?_; rintro e w4 ⟨q, rfl, hq, hg4, hs4⟩; obtain ⟨G4, rX4, rZ4⟩ := HKK.out _ _ hg4; obtain ⟨-, q0, q1, q2, q3, qf⟩ := id rX4; have qf1 := qf 1)
    have G5 := grown_store G4 (Nat.le_refl _) 1 (.int .i64 q)
    have rX5 := rX4.set1 (.int .i64 q)
    have rZ5 := rZ4.other (show W.heap.size ≠ W.heap.size + 1 by omega) 1 (.int .i64 q)
    have hs5 := hs4.store hgl 1 (.int .i64 q)
    clear G1 rX rZ HKK hs1 HA G4 rX4 rZ4 q0 q1 q2 q3 qf qf1 hg4 hs4
    obtain ⟨-, m0, m1, m2, m3, -⟩ := id rX5
    obtain ⟨-, y0, y1, y2, y3, yf⟩ := id rZ5
    have f0 := yf 0
    have f1 := yf 1
    have f2 := yf 2
    have f3 := yf 3
    generalize w4.setCell ⟨W.heap.size, 1, none⟩ (.int .i64 q) = w5 at *
    go_wp2
    refine bodyPost_ret (v := .agg #[.string nm, .int .i64 q, .int .i64 y, .int .i64 u]) (by simp [results, go_sem, y0, y1, y2, y3]) rfl ⟨_, _, _, rfl, ?_, ?_⟩
    · exact grown_store (grown_store (grown_store (grown_store G5 (by omega) _ _) (by omega) _ _) (by omega) _ _) (by omega) _ _
    · exact ((((hs5.store (by omega) _ _).store (by omega) _ _).store (by omega) _ _).store (by omega) _ _).le (by omega)
  · have HA := Lib.hid (src_among g w1.heap.size 4 4 (b + 2) (0) 1001 _ (hs1.kept (kept_alloc (Below.refl _ _) _)) (by omega) (by omega) (by have := hs1.1; omega) (lit_cells w1 2 [0, 1, 1000, 1001] (by decide)))
    go_upto_region 8 with (go_at_call 16; refine HA.out.mono ?_; rintro e w4 ⟨q, rfl, hq, hg4, hs4⟩; obtain ⟨G4, rX4, rZ4⟩ := HKK.out _ _ hg4; obtain ⟨-, q0, q1, q2, q3, qf⟩ := id rX4; have qf2 := qf 2)
    have G5 := grown_store G4 (Nat.le_refl _) 2 (.int .i64 q)
    have rX5 := rX4.set2 (.int .i64 q)
    have rZ5 := rZ4.other (show W.heap.size ≠ W.heap.size + 1 by omega) 2 (.int .i64 q)
    have hs5 := hs4.store hgl 2 (.int .i64 q)
    clear G1 rX rZ HKK hs1 HA G4 rX4 rZ4 q0 q1 q2 q3 qf qf2 hg4 hs4
    obtain ⟨-, m0, m1, m2, m3, -⟩ := id rX5
    obtain ⟨-, y0, y1, y2, y3, yf⟩ := id rZ5
    have f0 := yf 0
    have f1 := yf 1
    have f2 := yf 2
    have f3 := yf 3
    generalize w4.setCell ⟨W.heap.size, 2, none⟩ (.int .i64 q) = w5 at *
    go_wp2
    refine bodyPost_ret (v := .agg #[.string nm, .int .i64 x, .int .i64 q, .int .i64 u]) (by simp [results, go_sem, y0, y1, y2, y3]) rfl ⟨_, _, _, rfl, ?_, ?_⟩
    · exact grown_store (grown_store (grown_store (grown_store G5 (by omega) _ _) (by omega) _ _) (by omega) _ _) (by omega) _ _
    · exact ((((hs5.store (by omega) _ _).store (by omega) _ _).store (by omega) _ _).store (by omega) _ _).le (by omega)
  · have HA := Lib.hid (src_among g w1.heap.size 4 4 (b + 2) (0) 401 _ (hs1.kept (kept_alloc (Below.refl _ _) _)) (by omega) (by omega) (by have := hs1.1; omega) (lit_cells w1 2 [0, 1, 400, 401] (by decide)))
    go_upto_region 8 with (go_at_call 16; refine HA.out.mono ?_; rintro e w4 ⟨q, rfl, hq, hg4, hs4⟩; obtain ⟨G4, rX4, rZ4⟩ := HKK.out _ _ hg4; obtain ⟨-, q0, q1, q2, q3, qf⟩ := id rX4; have qf3 := qf 3)
    have G5 := grown_store G4 (Nat.le_refl _) 3 (.int .i64 q)
    have rX5 := rX4.set3 (.int .i64 q)
    have rZ5 := rZ4.other (show W.heap.size ≠ W.heap.size + 1 by omega) 3 (.int .i64 q)
    have hs5 := hs4.store hgl 3 (.int .i64 q)
    clear G1 rX rZ HKK hs1 HA G4 rX4 rZ4 q0 q1 q2 q3 qf qf3 hg4 hs4
    obtain ⟨-, m0, m1, m2, m3, -⟩ := id rX5
    obtain ⟨-, y0, y1, y2, y3, yf⟩ := id rZ5
    have f0 := yf 0
    have f1 := yf 1
    have f2 := yf 2
    have f3 := yf 3
    generalize w4.setCell ⟨W.heap.size, 3, none⟩ (.int .i64 q) = w5 at *
    go_wp2
    refine bodyPost_ret (v := .agg #[.string nm, .int .i64 x, .int .i64 y, .int .i64 q]) (by simp [results, go_sem, y0, y1, y2, y3]) rfl ⟨_, _, _, rfl, ?_, ?_⟩
    · exact grown_store (grown_store (grown_store (grown_store G5 (by omega) _ _) (by omega) _ _) (by omega) _ _) (by omega) _ _
    · exact ((((hs5.store (by omega) _ _).store (by omega) _ _).store (by omega) _ _).store (by omega) _ _).le (by omega)
  · obtain ⟨-, m0, m1, m2, m3, -⟩ := id rX
    obtain ⟨-, y0, y1, y2, y3, yf⟩ := id rZ
    have f0 := yf 0
    have f1 := yf 1
    have f2 := yf 2
    have f3 := yf 3
    go_wp2
    refine bodyPost_ret (v := .agg #[.string nm, .int .i64 x, .int .i64 y, .int .i64 u]) (by simp [results, go_sem, y0, y1, y2, y3]) rfl ⟨_, _, _, rfl, ?_, ?_⟩
    · exact grown_store (grown_store (grown_store (grown_store G1 (by omega) _ _) (by omega) _ _) (by omega) _ _) (by omega) _ _
    · exact ((((hs1.store (by omega) _ _).store (by omega) _ _).store (by omega) _ _).store (by omega) _ _).le (by omega)

end Go.Proofs.YtjmklkhdemolmaaGreatDoor
