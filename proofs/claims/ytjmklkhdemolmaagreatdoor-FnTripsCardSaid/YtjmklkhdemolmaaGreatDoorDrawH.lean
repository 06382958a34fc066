/- What is drawn for the cheapest fares and for two fares beside each other. -/
import Derived.Test.YtjmklkhdemolmaaGreatDoorDrawG
import Derived.Test.YtjmklkhdemolmaaGreatDoorMrgB
namespace Go.Proofs.YtjmklkhdemolmaaGreatDoor
open Go.RowKit Go.Deep
set_option linter.unusedVariables false
set_option maxRecDepth 100000

theorem FarL.sl {W w : World} {g : Nat} {cc : Int} {v : Value} {j : Nat} {a : Nat → ByteArray} {b c d : Nat → Int} (h : FarL W w g cc v j a b c d) (hj : j ≤ 9) : Sl w v 4 j (gc a b c d) := h.xs.sl (by omega)

set_option maxHeartbeats 1600000 in
theorem s_DrawBreakEven (v : Value) (n : Nat) (W : World) (h : ByS W v n) (hn : n ≤ 1048576) : Calls Tryz.prog 8 #[v] W fun e w' => ∃ (vl : Value) (j : Nat) (a : Nat → ByteArray) (b c d : Nat → Int) (x y : ByteArray), e = .returned (.tuple #[vl, .string x, .string y]) ∧ j ≤ 9 ∧ Below W.heap.size W w' ∧ Sl w' vl 4 j (gc a b c d) ∧ (∀ i, i < j → (a i).size ≤ 100) := by
  have HF := Lib.hid (src_from v n _ h hn)
  obtain ⟨-, ao, cap, rfl, -⟩ := h
  go_enter Tryz.func8, Tryz.ntmps8
  go_upto_region 2 with (go_at_call 13; refine HF.out.mono ?_; rintro e w1 ⟨rfl, hb1, hs1, hz1⟩)
  have HFs := Lib.hid (d_Fares W.heap.size 0 w1 hs1 (by omega))
  unfold FaresPost at HFs
  have hgw : W.heap.size < w1.heap.size := hs1.1
  clear hs1 HF
  go_upto_region 3 with (go_at_call 14; refine HFs.out.mono ?_; rintro e w2 ⟨vl, j, a, b, c, d, rfl, hj, F2⟩)
  have K2 := kept_grown hb1 F2.grown (fun r e => by have e2 := Option.some.inj e; omega)
  have hsl := F2.sl hj
  have HS := Lib.hid F2.short
  go_wp2_with (first
    | (go_at_call 23; have _t := tok; refine (d_FareId W.heap.size _ _ hs3 (by omega)).mono ?_; rintro e w4 ⟨y, rfl, hy, hg4, hs4⟩)
    | (go_at_call 23; refine (d_FareId W.heap.size _ _ F2.src (by omega)).mono ?_; rintro e w3 ⟨x, rfl, hx, hg3, hs3⟩; have tok : True := trivial))
  have F4 := (F2.pick (dd := 0 + 400 + 2) hgw hg3 (by first | exact hs3 | exact hs3.le (by omega))).pick hgw hg4 hs4
  have K4 := kept_grown (kept_grown K2 hg3 (fun r e => by have e2 := Option.some.inj e; omega)) hg4 (fun r e => by have e2 := Option.some.inj e; omega)
  go_ret3
  exact ⟨vl, j, a, b, c, d, x, y, rfl, hj, K4, F4.sl hj, HS.out⟩

theorem mul_bd35 {x y : Int} (hx : 0 ≤ x ∧ x < 3) (hy : 0 ≤ y ∧ y < 5) : 0 ≤ x * y ∧ x * y ≤ 8 := by
  rcases (show x = 0 ∨ x = 1 ∨ x = 2 by omega) with rfl | rfl | rfl <;> omega
/-- What holds between the draws of trips: the source, the trips so far. -/
structure TrL (W w : World) (g : Nat) (cc : Int) (v : Value) (j : Nat) (z : Nat → Int) : Prop where
  grown : W.grownBy w (some g)
  src : SrcAt w g cc
  xs : Out w W.heap.size 2 1 v j (ic z)
  nn : v ≠ .slice none 0 0
theorem snoc_intH {w : World} {B j : Nat} {e : TypeId} {v : Value} {f : Nat → Int} {a : Int} (h : w.ownsRow B e 1 v (j + 1) (cellsN (ic f) (j * 1) ++ [.int .i64 a])) : Out w B e 1 v (j + 1) (ic (setI j a f)) := by
  have e1 : cellsN (ic f) (j * 1) = cellsN (ic (setI j a f)) (j * 1) := cellsN_congr (fun i hi => by simp only [ic]; unfold setI; rw [if_neg (by omega)])
  rw [e1] at h
  exact Out.snoc1 h (by simp only [ic]; unfold setI; rw [if_pos rfl])
section
variable {W w : World} {g : Nat} {cc dd : Int} {v : Value} {j : Nat} {z : Nat → Int}
theorem TrL.pick {w' : World} (h : TrL W w g cc v j z) (hgl : g < W.heap.size) (hg : w.grownBy w' (some g)) (hs : SrcAt w' g dd) : TrL W w' g dd v j z :=
  ⟨grown_trans h.grown hg, hs, out_srcF h.xs hg hgl, h.nn⟩
theorem TrL.kept {w' : World} (h : TrL W w g cc v j z) (hb : Below w.heap.size w w') : TrL W w' g cc v j z :=
  ⟨grown_trans h.grown (grown_of_below hb _), h.src.kept hb, h.xs.kept hb, h.nn⟩
theorem TrL.le (h : TrL W w g cc v j z) (hc : cc ≤ dd) : TrL W w g dd v j z := ⟨h.grown, h.src.le hc, h.xs, h.nn⟩
theorem TrL.app {w1 : World} {v' : Value} {o : Obj} {u : Int} (h : TrL W w g cc v j z) (hgl : g < W.heap.size) (ho : w1.ownsRow W.heap.size 2 1 v' (j + 1) (cellsN (ic z) (j * 1) ++ [.int .i64 u])) (hg : (w.alloc o).grownBy w1 v.ownBlock) (hnil : v' = .slice none 0 0 ↔ v = .slice none 0 0 ∧ 1 = 0) : TrL W w1 g cc v' (j + 1) (setI j u z) := by
  have hr : ∀ q, v.ownBlock = some q → W.heap.size ≤ q := fun q e => (h.xs.base q e).1
  exact ⟨grown_own (grown_alloc h.grown o) hg hr, (h.src.kept (kept_alloc (Below.refl _ _) o)).far hg (fun q e => by have := hr q e; omega), snoc_intH ho, fun e => absurd (hnil.1 e).2 (by omega)⟩
theorem TrL.fresh (h : TrL W w g cc v j z) : TrL W (w.alloc (.cells #[] 2)) g cc (.slice (some ⟨w.heap.size, 0, none⟩) 0 0) 0 (fun _ => 0) :=
  ⟨grown_alloc h.grown _, h.src.kept (kept_alloc (Below.refl _ _) _), Out.empty _ _ _ _ _ h.grown.size, by simp⟩
theorem TrL.start (hs : SrcAt W g cc) : TrL W (W.alloc (.cells #[] 2)) g cc (.slice (some ⟨W.heap.size, 0, none⟩) 0 0) 0 (fun _ => 0) :=
  ⟨grown_alloc (grown_refl _ _) _, hs.kept (kept_alloc (Below.refl _ _) _), Out.empty _ _ _ _ _ (Nat.le_refl _), by simp⟩
theorem TrL.form (h : TrL W w g cc v j z) : ∃ gt cp, v = .slice (some ⟨gt, 0, none⟩) j cp ∧ j ≤ cp ∧ cp ≤ maxLen ∧ Row w gt 0 j (ic z) := by
  have hx := h.xs
  rcases h.xs.2 with ⟨h0, h1⟩ | ⟨gg, gcap, cur, h0, h1, h2, h3, h4, h5, h6⟩
  · exact absurd h0 h.nn
  · refine ⟨gg, gcap, h0, h3, h4, ?_⟩
    rw [h0] at hx
    have hr : Row w gg 0 (j * 1) (ic z) := (Row.of_own hx).congr fun i hi => cellsN_getD hi
    rwa [Nat.mul_one] at hr
end

set_option maxHeartbeats 6400000 in
theorem s_DrawCheapestFares (v : Value) (n : Nat) (W : World) (h : ByS W v n) (hn : n ≤ 1048576) : Calls Tryz.prog 5 #[v] W fun e w' => ∃ (vl : Value) (m : Nat) (a : Nat → ByteArray) (b c d : Nat → Int) (gt cp k : Nat) (z : Nat → Int), e = .returned (.tuple #[vl, .slice (some ⟨gt, 0, none⟩) k cp]) ∧ (m ≤ 9 ∧ k ≤ 60 ∧ k ≤ cp ∧ cp ≤ maxLen) ∧ Below W.heap.size W w' ∧ Sl w' vl 4 m (gc a b c d) ∧ (∀ i, i < m → (a i).size ≤ 100) ∧ Row w' gt 0 k (ic z) := by
  obtain ⟨i0, hi, hz0, hz1, hz2⟩ := info_parts infoInt
  have HF := Lib.hid (src_from v n _ h hn)
  obtain ⟨-, ao, cap, rfl, -⟩ := h
  go_enter Tryz.func5, Tryz.ntmps5
  go_upto_region 2 with (go_at_call 13; refine HF.out.mono ?_; rintro e w1 ⟨rfl, hb1, hs1, hzz⟩)
  have HFs := Lib.hid (d_Fares W.heap.size 0 w1 hs1 (by omega))
  unfold FaresPost at HFs
  have hgw : W.heap.size < w1.heap.size := hs1.1
  clear hs1 HF hzz
  go_upto_region 3 with (go_at_call 14; refine HFs.out.mono ?_; rintro e w2 ⟨vl, m, a, b, c, d, rfl, hj, F2⟩)
  have K2 := kept_grown hb1 F2.grown (fun r e => by have e2 := Option.some.inj e; omega)
  have hg2 : W.heap.size < w2.heap.size := F2.src.1
  have HL : Hid (∀ w, w2.grownBy w (some W.heap.size) → Below W.heap.size W w ∧ Sl w vl 4 m (gc a b c d)) := fun w hg => ⟨kept_grown K2 hg (fun r e => by have e2 := Option.some.inj e; omega), (out_srcF F2.xs hg (by omega)).sl (by omega)⟩
  have HS := Lib.hid F2.short
  have T3 := Lib.hid (TrL.start F2.src)
  have HP : Hid (∀ w c k, SrcAt w W.heap.size c → c ≤ 2000 → (1 ≤ k ∧ k ≤ 65536) → Calls Tryz.prog 15 #[.pointer (some ⟨W.heap.size, 0, none⟩), .int .i64 k] w fun e w' => ∃ x : Int, e = .returned (.int .i64 x) ∧ (0 ≤ x ∧ x < k) ∧ w.grownBy w' (some W.heap.size) ∧ SrcAt w' W.heap.size (c + 2)) := fun w c k h1 h2 h3 => src_pick W.heap.size c k w h1 (by omega) h3
  clear F2 K2 hb1 hgw HFs
  generalize hgW : W.heap.size = g at *
  go_upto_region 4 with (fail)
  generalize w2.alloc (.cells #[] 2) = w3 at *
  go_wp2_with (first
    | (go_at_call 15; refine (HP.out _ _ 12 T4.out.src (by omega) (by omega)).mono ?_; rintro e w5 ⟨x5, rfl, hx5, hg5, hs5⟩; have T5 := Lib.hid (T4.out.pick hg2 hg5 hs5); clear T4 hg5 hs5)
    | (go_at_call 15; refine (HP.out _ _ 9 T3.out.src (by omega) (by omega)).mono ?_; rintro e w4 ⟨x4, rfl, hx4, hg4, hs4⟩; have T4 := Lib.hid (T3.out.pick hg2 hg4 hs4); clear T3 hg4 hs4))
  obtain ⟨K, rfl⟩ : ∃ K : Nat, x5 = (K : Int) := ⟨x5.toNat, by omega⟩
  go_loopw [6, 7, 8] (fun u q i wr => ∃ (j k : Nat) (tv : Value) (z : Nat → Int) (dy : Int), u = tv ∧ q = .int .i64 dy ∧ i = .int .i64 k ∧ j + k ≤ 11 ∧ (0 ≤ dy ∧ dy ≤ 9200 - 8 * k) ∧ Hid (TrL w2 wr g (0 + 400 + 4 + 4 * j) tv j z)) (fun _ _ i _ => (intOf i).toNat)
  case atStart => exact ⟨0, K, _, _, _, rfl, rfl, rfl, by omega, by omega, Lib.hid (T5.out.le (by omega))⟩
  case round =>
    clear T5 hx4 hx5
    obtain ⟨j, k, tv, z, dy, rfl, rfl, rfl, hjk, hdy, HT⟩ := hrel
    by_cases hk : 0 < k
    · as_aux_lemma =>
      go_wp2_with (first
        | (go_at_call 15; refine (HP.out _ _ 5 T8.out.src (by omega) (by omega)).mono ?_; rintro e w9 ⟨x9, rfl, hx9, hg9, hs9⟩; have T9 := Lib.hid (T8.out.pick hg2 hg9 hs9); have hxy := mul_bd35 hx8 hx9; clear T8 hg9 hs9)
        | (go_at_call 15; go_loud (refine (HP.out _ _ 3 T7.out.src (by omega) (by omega)).mono ?_; rintro e w8 ⟨x8, rfl, hx8, hg8, hs8⟩; have T8 := Lib.hid (T7.out.pick hg2 hg8 hs8); clear T7 hg8 hs8))
        | ((at_builtin; refine wpList_append_own_at _ rfl _ _ 25 rfl _ 2 i0 _ 1 8 Tryz.underlying25 hi hz0 hz1 hz2 rfl (by decide) _ _ _ rfl ((HT.out.xs).row.alloc _) ⟨wr.heap.size, 0, none⟩ 1 1 _ (by rfl) (by rfl) (laid_at (by simp)) (by intro u hu; simp at hu; first | (rcases hu with rfl | rfl <;> rfl) | (subst hu; rfl)) (by simp only [maxLen]; omega) (by omega) (by have hbs := HT.out.grown.size; simp at hbs ⊢; omega) ?_; intro v7 w7 hown7 hgrow7 hnil7 hat7); have T7 := Lib.hid (HT.out.app hg2 hown7 hgrow7 hnil7); clear HT hown7 hgrow7 hnil7 hat7))
      go_roundw
      case rel => exact ⟨j + 1, k - 1, _, _, _, rfl, rfl, by congr 1; omega, by omega, by omega, Lib.hid (T9.out.le (by omega))⟩
      case measure => simp [intOf]; omega
    · as_aux_lemma =>
      obtain rfl : k = 0 := by omega
      go_upto_region 11 with (go_at_call 15; refine (HP.out _ _ 20 HT.out.src (by omega) (by omega)).mono ?_; rintro e w5 ⟨x5, rfl, hx5, hg5, hs5⟩)
      have T5 := Lib.hid (HT.out.pick hg2 hg5 hs5)
      clear HT hg5 hs5
      rcases (show x5 = 0 ∨ x5 = 1 ∨ (¬ x5 = 0 ∧ ¬ x5 = 1) by omega) with rfl | rfl | ⟨hn0, hn1⟩
      · as_aux_lemma =>
        have HA := Lib.hid (src_among g w5.heap.size 4 4 _ (-1) 36525 _ (T5.out.src.kept (kept_alloc (Below.refl _ _) _)) (by omega) (by omega) (by have := T5.out.src.1; omega) (lit_cells w5 2 [-1, 0, 36524, 36525] (by decide)))
        have HKK := Lib.hid (fun (o : Obj) (w6 : World) (dd : Int) (hg : (w5.alloc o).grownBy w6 (some g)) (hs : SrcAt w6 g dd) => (T5.out.kept (kept_alloc (Below.refl _ _) o)).pick hg2 hg hs)
        clear T5
        go_wp2_with (first
          | ((at_builtin; refine wpList_append_own_at _ rfl _ _ 25 rfl _ 2 i0 _ 1 8 Tryz.underlying25 hi hz0 hz1 hz2 rfl (by decide) _ _ _ rfl ((T6.out.xs).row.alloc _) ⟨w6.heap.size, 0, none⟩ 1 1 _ (by rfl) (by rfl) (laid_at (by simp)) (by intro u hu; simp at hu; first | (rcases hu with rfl | rfl <;> rfl) | (subst hu; rfl)) (by simp only [maxLen]; omega) (by omega) (by have hbs := T6.out.grown.size; simp at hbs ⊢; omega) ?_; intro v7 w7 hown7 hgrow7 hnil7 hat7); have T7 := Lib.hid (T6.out.app hg2 hown7 hgrow7 hnil7); clear T6 hown7 hgrow7 hnil7 hat7)
          | (go_at_call 16; refine HA.out.mono ?_; rintro e w6 ⟨q, rfl, hq, hg6, hs6⟩; have T6 := Lib.hid (HKK.out _ _ _ hg6 hs6); clear HKK HA hg6 hs6))
        obtain ⟨gt, cp, rfl, hc1, hc2, hrw⟩ := T7.out.form
        obtain ⟨hb7, hl7⟩ := HL.out _ T7.out.grown
        refine bodyPost_ret (results_tmp2 rfl _ _ _) rfl ⟨vl, m, a, b, c, d, gt, cp, _, _, rfl, ⟨hj, by omega, hc1, hc2⟩, by rw [hgW]; exact hb7, hl7, HS.out, hrw⟩
      · as_aux_lemma =>
        have HA := Lib.hid (src_among g w5.heap.size 2 2 _ 40 41 _ (T5.out.src.kept (kept_alloc (Below.refl _ _) _)) (by omega) (by omega) (by have := T5.out.src.1; omega) (lit_cells w5 2 [40, 41] (by decide)))
        have HKK := Lib.hid (fun (o : Obj) (w6 : World) (dd : Int) (hg : (w5.alloc o).grownBy w6 (some g)) (hs : SrcAt w6 g dd) => (T5.out.kept (kept_alloc (Below.refl _ _) o)).pick hg2 hg hs)
        clear T5
        go_upto_region 15 with (go_at_call 16; refine HA.out.mono ?_; rintro e w6 ⟨q, rfl, hq, hg6, hs6⟩; have T6 := Lib.hid (HKK.out _ _ _ hg6 hs6))
        clear HKK HA hg6 hs6
        obtain ⟨mm, rfl, hm⟩ : ∃ mm : Nat, q = mm ∧ mm ≤ 41 := ⟨q.toNat, by omega, by omega⟩
        have T7 := Lib.hid (T6.out.fresh)
        clear T6
        go_wp2
        generalize w6.alloc (.cells #[] 2) = w7 at *
        go_loopw [6, 10] (fun u i wr => ∃ (k : Nat) (tv : Value) (z : Nat → Int), u = tv ∧ i = .int .i64 k ∧ k ≤ mm ∧ Hid (TrL w2 wr g 1000 tv k z)) (fun _ i _ => mm - (intOf i).toNat)
        case atStart => exact ⟨0, _, _, rfl, rfl, by omega, Lib.hid (T7.out.le (by omega))⟩
        case round =>
          clear T7
          obtain ⟨k, tv, z, rfl, rfl, hk, HT⟩ := hrel
          by_cases hlt : k < mm
          · as_aux_lemma =>
            have hkm : (k : Int) < mm := by omega
            go_wp2_with ((at_builtin; refine wpList_append_own_at _ rfl _ _ 25 rfl _ 2 i0 _ 1 8 Tryz.underlying25 hi hz0 hz1 hz2 rfl (by decide) _ _ _ rfl ((HT.out.xs).row.alloc _) ⟨wr.heap.size, 0, none⟩ 1 1 _ (by rfl) (by rfl) (laid_at (by simp)) (by intro u hu; simp at hu; first | (rcases hu with rfl | rfl <;> rfl) | (subst hu; rfl)) (by simp only [maxLen]; omega) (by omega) (by have hbs := HT.out.grown.size; simp at hbs ⊢; omega) ?_; intro v7 w7 hown7 hgrow7 hnil7 hat7); have T7 := Lib.hid (HT.out.app hg2 hown7 hgrow7 hnil7); clear HT hown7 hgrow7 hnil7 hat7)
            go_roundw
            case rel => exact ⟨k + 1, _, _, rfl, by go_num, by omega, T7⟩
            case measure => simp [intOf]; omega
          · as_aux_lemma =>
            obtain ⟨gt, cp, rfl, hc1, hc2, hrw⟩ := HT.out.form
            obtain ⟨hb7, hl7⟩ := HL.out _ HT.out.grown
            go_wp2
            refine bodyPost_ret (results_tmp2 rfl _ _ _) rfl ⟨vl, m, a, b, c, d, gt, cp, _, _, rfl, ⟨hj, by omega, hc1, hc2⟩, by rw [hgW]; exact hb7, hl7, HS.out, hrw⟩
      · as_aux_lemma =>
        obtain ⟨gt, cp, rfl, hc1, hc2, hrw⟩ := T5.out.form
        obtain ⟨hb7, hl7⟩ := HL.out _ T5.out.grown
        go_wp2
        refine bodyPost_ret (results_tmp2 rfl _ _ _) rfl ⟨vl, m, a, b, c, d, gt, cp, _, _, rfl, ⟨hj, by omega, hc1, hc2⟩, by rw [hgW]; exact hb7, hl7, HS.out, hrw⟩

end Go.Proofs.YtjmklkhdemolmaaGreatDoor
