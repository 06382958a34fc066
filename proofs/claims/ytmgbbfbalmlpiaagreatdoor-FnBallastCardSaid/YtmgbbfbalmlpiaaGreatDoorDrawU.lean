/- What is drawn for the waters of trips: the walk. -/
import Derived.Test.YtmgbbfbalmlpiaaGreatDoorDrawT
import Derived.Deep.RegionHeld3
import Derived.Deep.OwnRows
namespace Go.Proofs.YtmgbbfbalmlpiaaGreatDoor
open Go.RowKit Go.Deep
set_option linter.unusedVariables false
set_option maxRecDepth 100000

theorem Out.formU {w : World} {B k n : Nat} {e : TypeId} {v : Value} {f : Nat → Value} (h : Out w B e k v n f) : ∃ ao cap, v = .slice ao n cap := by
  rcases h.2 with ⟨h0, h1⟩ | ⟨gg, gcap, cur, h0, -⟩
  · exact ⟨_, _, by rw [h0, h1]⟩
  · exact ⟨_, _, h0⟩

theorem Out.made {w : World} {e : TypeId} {B n : Nat} (hB : B ≤ w.heap.size) (hn : n ≤ maxLen) : Out (w.alloc (.cells (madeCells #[.int .i64 0] n) e)) B e 1 (.slice (some ⟨w.heap.size, 0, none⟩) n n) n (ic fun _ => 0) := by
  refine ⟨by simp [cellsN], .inr ⟨w.heap.size, n, _, rfl, hB, heap_alloc_new w _, Nat.le_refl _, hn, by simp [size_madeCells], ?_⟩⟩
  apply List.ext_getElem?
  intro i
  simp only [madeCells, cellsN, Nat.mul_one, Array.toList_map, Array.toList_range, List.getElem?_take, List.getElem?_map]
  by_cases h : i < n
  · simp [h, ic, Nat.mod_one]
  · simp [h]
theorem Out.setU {w : World} {B k n : Nat} {e : TypeId} {v : Value} {f : Nat → Value} (h : Out w B e k v n f) {a : Addr} (ha : a.block < B) (u : Value) : Out (w.setCell a u) B e k v n f := ownsRow_setCell_below h ha u

set_option maxHeartbeats 80000000 in
theorem s_DrawTripWaters (v : Value) (n : Nat) (W : World) (h : ByS W v n) (hn : n ≤ 1048576) : Calls Tryz.prog 9 #[v] W fun e w' => ∃ (t r s p rp gr nd : Int) (x y : Value) (j m : Nat) (a b : Nat → Int), e = .returned (.tuple #[.agg #[.int .i64 t, .int .i64 r, .int .i64 s, .int .i64 p], x, y, .int .i64 rp, .int .i64 gr, .int .i64 nd]) ∧ (j ≤ 30 ∧ m ≤ 30) ∧ Below W.heap.size W w' ∧ Sl w' x 1 j (ic a) ∧ Sl w' y 1 m (ic b) := by
  obtain ⟨i0, hi, hz0, hz1, hz2⟩ := info_parts infoI
  have KA := kept_alloc (Below.refl W.heap.size W) (.cells #[.int .i64 0, .int .i64 0, .int .i64 0, .int .i64 0] 25)
  have HF := Lib.hid (src_from v n _ (h.kept KA) hn)
  have HP := Lib.hid (fun w c (m : Int) h hc hm => src_pick (W.heap.size + 1) c m w h hc hm)
  have r0 := BoxAt.new W (.int .i64 0) (.int .i64 0) (.int .i64 0) (.int .i64 0) 25
  obtain ⟨-, ao, cap, rfl, -⟩ := h
  go_enter Tryz.func9, Tryz.ntmps9
  go_upto_region 2 with (go_at_call 14; refine HF.out.mono ?_; rintro e w1 ⟨rfl, hb1, hs1, hz1⟩)
  have ez : (W.alloc (.cells #[.int .i64 0, .int .i64 0, .int .i64 0, .int .i64 0] 25)).heap.size = W.heap.size + 1 := by simp
  have r1 := r0.kept hb1
  have K1 := kept_trans KA hb1
  rw [ez] at hs1 hz1
  clear r0 hb1 HF KA
  go_upto_region 3 with (go_at_call 15; first | (refine (d_Basin (W.heap.size + 1) 0 _ hs1 (by omega)).mono ?_; rintro e w2 ⟨t, r, s, p, rfl, hbd, hg2, hs2⟩))
  have K2 := K1.grown hg2 (by have := K1.size; omega) (fun r e => by have e2 : W.heap.size + 1 = r := Option.some.inj e; omega)
  have r2 := (r1.grown hg2 (by omega)).kept (kept_alloc (Below.refl w2.heap.size w2) (.cells #[.int .i64 t, .int .i64 r, .int .i64 s, .int .i64 p] 25))
  have rB := BoxAt.new w2 (.int .i64 t) (.int .i64 r) (.int .i64 s) (.int .i64 p) 25
  have K3 := K2.alloc K2.size (.cells #[.int .i64 t, .int .i64 r, .int .i64 s, .int .i64 p] 25)
  have hs3 := hs2.kept (kept_alloc (Below.refl w2.heap.size w2) (.cells #[.int .i64 t, .int .i64 r, .int .i64 s, .int .i64 p] 25))
  have hbb : W.heap.size + 1 < w2.heap.size := hs2.1
  have hw3 : (w2.alloc (.cells #[.int .i64 t, .int .i64 r, .int .i64 s, .int .i64 p] 25)).heap.size = w2.heap.size + 1 := by simp
  clear r1 K1 K2 hs1 hs2 hg2 ez hz1
  generalize w2.heap.size = bb at *
  generalize w2.alloc (.cells #[.int .i64 t, .int .i64 r, .int .i64 s, .int .i64 p] 25) = w3 at *
  have T3 : Hid (TripAt W ((w3.alloc (.cells #[] 2)).alloc (.cells #[] 2)) bb (0 + 12) t r s p (.slice (some ⟨bb + 1, 0, none⟩) 0 0) (.slice (some ⟨bb + 1 + 1, 0, none⟩) 0 0) 0 0 (fun _ => 0) (fun _ => 0)) := by
    refine ⟨(K3.alloc K3.size _).alloc (by have := K3.size; simp; omega) _, (hs3.kept (kept_alloc (Below.refl _ _) _)).kept (kept_alloc (Below.refl _ _) _), (r2.kept (kept_alloc (Below.refl _ _) _)).kept (kept_alloc (Below.refl _ _) _), (rB.kept (kept_alloc (Below.refl _ _) _)).kept (kept_alloc (Below.refl _ _) _), ?_, ?_, fun b hb e => ?_⟩
    · have h := Out.empty w3 2 1 (ic (fun _ => 0)) (bb + 1) (by omega)
      rw [hw3] at h
      exact h.kept (kept_alloc (Below.refl _ _) _)
    · have h := Out.empty (w3.alloc (.cells #[] 2)) 2 1 (ic (fun _ => 0)) (bb + 1) (by simp; omega)
      rw [show (w3.alloc (.cells #[] 2)).heap.size = bb + 1 + 1 by simp; omega] at h
      exact h
    · simp [Value.ownBlock] at hb e
      omega
  clear K3 r2 rB hs3
  go_upto_region 5 with fail
  generalize (w3.alloc (.cells #[] 2)).alloc (.cells #[] 2) = w4 at *
  go_wp2_with (go_at_call 17; refine (HP.out _ _ 6 T3.out.src (by omega) (by omega)).mono ?_; rintro e w5 ⟨x5, rfl, hx5, hg5, hs5⟩)
  have T5 := Lib.hid (T3.out.pick hbb hg5 hs5)
  clear T3 hg5 hs5
  obtain ⟨K, rfl⟩ : ∃ K : Nat, x5 = (K : Int) := ⟨x5.toNat, by omega⟩
  go_loopw [10, 11, 12] (fun u q i wr => ∃ (j k : Nat) (x y : Value) (a b : Nat → Int), u = x ∧ q = y ∧ i = .int .i64 k ∧ j + k ≤ 5 ∧ Hid (TripAt W wr bb (0 + 12 + 2 + 4 * j) t r s p x y j j a b)) (fun _ _ i _ => (intOf i).toNat)
  case atStart => exact ⟨0, K, _, _, _, _, rfl, rfl, rfl, by omega, T5⟩
  case round =>
    clear T5 hx5
    obtain ⟨j, k, x, y, a, b, rfl, rfl, rfl, hjk, HT⟩ := hrel
    obtain ⟨xo, xc, rfl⟩ := HT.out.xs.formU
    obtain ⟨yo, yc, rfl⟩ := HT.out.ys.formU
    by_cases hk : 0 < k
    · go_wp2_with (first
        | ((at_builtin; refine wpList_append_own_at _ rfl _ _ 32 rfl _ 2 i0 _ 1 8 Tryz.underlying32 hi hz0 hz1 hz2 rfl (by decide) _ _ _ rfl ((T8.out.ys).row.alloc _) ⟨w8.heap.size, 0, none⟩ 1 1 _ (by rfl) (by rfl) (laid_at (by simp)) (by intro u hu; simp at hu; first | (rcases hu with rfl | rfl <;> rfl) | (subst hu; rfl)) (by simp only [maxLen]; omega) (by omega) (by have hbs := (kept_alloc (Below.refl w8.heap.size w8) (.cells #[] 0)).size; simp at hbs ⊢; omega) ?_; intro v9 w9 hown9 hgrow9 hnil9 hat9); have T9 := Lib.hid (T8.out.swap.appX hbb hown9 hgrow9 hat9).swap; clear T8 hown9 hgrow9 hnil9 hat9)
        | (go_at_call 17; refine (HP.out _ _ 40 T7.out.src (by omega) (by omega)).mono ?_; rintro e w8 ⟨x8, rfl, hx8, hg8, hs8⟩; have T8 := Lib.hid (T7.out.pick hbb hg8 hs8); have K8 := T8.out.box.1; clear T7 hg8 hs8)
        | ((at_builtin; refine wpList_append_own_at _ rfl _ _ 32 rfl _ 2 i0 _ 1 8 Tryz.underlying32 hi hz0 hz1 hz2 rfl (by decide) _ _ _ rfl ((T6.out.xs).row.alloc _) ⟨w6.heap.size, 0, none⟩ 1 1 _ (by rfl) (by rfl) (laid_at (by simp)) (by intro u hu; simp at hu; first | (rcases hu with rfl | rfl <;> rfl) | (subst hu; rfl)) (by simp only [maxLen]; omega) (by omega) (by have hbs := (kept_alloc (Below.refl w6.heap.size w6) (.cells #[] 0)).size; simp at hbs ⊢; omega) ?_; intro v7 w7 hown7 hgrow7 hnil7 hat7); have T7 := Lib.hid (T6.out.appX hbb hown7 hgrow7 hat7); clear T6 hown7 hgrow7 hnil7 hat7; clear K6)
        | (go_at_call 17; refine (HP.out _ _ 40 HT.out.src (by omega) (by omega)).mono ?_; rintro e w6 ⟨x6, rfl, hx6, hg6, hs6⟩; have T6 := Lib.hid (HT.out.pick hbb hg6 hs6); have K6 := T6.out.box.1; clear HT hg6 hs6))
      all_goals
        have ec : 0 + 12 + 2 + 4 * (j : Int) + 2 + 2 = 0 + 12 + 2 + 4 * ((j + 1 : Nat) : Int) := by omega
        go_roundw
        case rel => exact ⟨j + 1, k - 1, _, _, _, _, rfl, rfl, by go_num, by omega, Lib.hid (ec ▸ T9.out)⟩
        case measure => simp [intOf]; omega
    · obtain rfl : k = 0 := by omega
      have hj5 : j ≤ 5 := by omega
      clear hk hjk
      go_upto_region 11 with (go_at_call 17; refine (HP.out _ _ 16 HT.out.src (by omega) (by omega)).mono ?_; rintro e w5 ⟨x5, rfl, hx5, hg5, hs5⟩)
      have T5 := Lib.hid (HT.out.pick hbb hg5 hs5)
      clear HT hg5 hs5
      have hcase : (¬ x5 = 0 ∧ ¬ x5 = 1 ∧ ¬ x5 = 2) ∨ x5 = 0 ∨ x5 = 1 ∨ x5 = 2 := by omega
      rcases hcase with ⟨e0, e1, e2⟩ | rfl | rfl | rfl
      · go_upto_region 22 with (first
          | (go_at_call 18; refine (d_Grade (W.heap.size + 1) _ _ hs6 (by omega)).mono ?_; rintro e w7 ⟨gr, rfl, hgr, hg7, hs7⟩)
          | (go_at_call 17; refine (HP.out _ _ 20 T5.out.src (by omega) (by omega)).mono ?_; rintro e w6 ⟨x6, rfl, hx6, hg6, hs6⟩))
        have T7 := Lib.hid ((T5.out.pick hbb hg6 hs6).pick hbb hg7 hs7)
        clear T5 hg6 hg7 hs6 hs7
        obtain ⟨-, b0, b1, b2, b3, -⟩ := id T7.out.box
        go_region_with (go_at_call 17; refine (HP.out _ _ 50 (by first | exact T7.out.src | exact T7.out.src.kept (kept_drew (Below.refl _ _))) (by omega) (by omega)).mono ?_; rintro e w8 ⟨x8, rfl, hx8, hg8, hs8⟩; have T8 := Lib.hid ((T7.out.kept (kept_drew (Below.refl _ _))).pick hbb hg8 hs8); obtain ⟨-, c0, c1, c2, c3, -⟩ := id T8.out.box; obtain ⟨-, y0, y1, y2, y3, yf⟩ := id T8.out.zero; have f0 := yf 0; have f1 := yf 1; have f2 := yf 2; have f3 := yf 3)
        all_goals
          go_wp2_with fail
          have ew : IntKind.i64.wrap (100 * x8) = 100 * x8 := IntWalk.i64_in _ (by omega)
          refine bodyPost_ret (v := .tuple #[.agg #[.int .i64 t, .int .i64 r, .int .i64 s, .int .i64 p], (.slice xo j xc), (.slice yo j yc), .int .i64 (50 * x6), .int .i64 gr, .int .i64 (100 * x8)]) (by simp [results, go_sem, y0, y1, y2, y3, ew]) rfl ⟨t, r, s, p, _, _, _, _, _, j, j, a, b, rfl, by omega, ?_, ?_, ?_⟩
          · repeat (first | exact T8.out.below | refine kept_drew ?_ | refine kept_set ?_ (Nat.le_refl _) _)
          · refine Out.sl (B := bb + 1) (e := 2) ?_ (by omega)
            repeat (first | exact T8.out.xs | exact T8.out.xs.kept (kept_drew (Below.refl _ _)) | refine Out.setU ?_ (by show W.heap.size < bb + 1; omega) _)
          · refine Out.sl (B := bb + 1) (e := 2) ?_ (by omega)
            repeat (first | exact T8.out.ys | exact T8.out.ys.kept (kept_drew (Below.refl _ _)) | refine Out.setU ?_ (by show W.heap.size < bb + 1; omega) _)
      · have K5 := T5.out.box.1
        go_upto_region 22 with (first
          | (go_at_call 18; refine (d_Grade (W.heap.size + 1) _ _ hs6 (by omega)).mono ?_; rintro e w7 ⟨gr, rfl, hgr, hg7, hs7⟩)
          | (go_at_call 17; refine (HP.out _ _ 20 T9.out.src (by omega) (by omega)).mono ?_; rintro e w6 ⟨x6, rfl, hx6, hg6, hs6⟩)
          | ((at_builtin; refine wpList_append_own_at _ rfl _ _ 32 rfl _ 2 i0 _ 1 8 Tryz.underlying32 hi hz0 hz1 hz2 rfl (by decide) _ _ _ rfl ((T5.out.xs).row.alloc _) ⟨w5.heap.size, 0, none⟩ 1 1 _ (by rfl) (by rfl) (laid_at (by simp)) (by intro u hu; simp at hu; first | (rcases hu with rfl | rfl <;> rfl) | (subst hu; rfl)) (by simp only [maxLen]; omega) (by omega) (by have hbs := (kept_alloc (Below.refl w5.heap.size w5) (.cells #[] 0)).size; simp at hbs ⊢; omega) ?_; intro v9 w9 hown9 hgrow9 hnil9 hat9); have T9 := Lib.hid (T5.out.appX hbb hown9 hgrow9 hat9); clear T5 hown9 hgrow9 hnil9 hat9 K5))
        have T7 := Lib.hid ((T9.out.pick hbb hg6 hs6).pick hbb hg7 hs7)
        clear T9 hg6 hg7 hs6 hs7
        obtain ⟨-, b0, b1, b2, b3, -⟩ := id T7.out.box
        go_region_with (go_at_call 17; refine (HP.out _ _ 50 (by first | exact T7.out.src | exact T7.out.src.kept (kept_drew (Below.refl _ _))) (by omega) (by omega)).mono ?_; rintro e w8 ⟨x8, rfl, hx8, hg8, hs8⟩; have T8 := Lib.hid ((T7.out.kept (kept_drew (Below.refl _ _))).pick hbb hg8 hs8); obtain ⟨-, c0, c1, c2, c3, -⟩ := id T8.out.box; obtain ⟨-, y0, y1, y2, y3, yf⟩ := id T8.out.zero; have f0 := yf 0; have f1 := yf 1; have f2 := yf 2; have f3 := yf 3)
        all_goals
          go_wp2_with fail
          have ew : IntKind.i64.wrap (100 * x8) = 100 * x8 := IntWalk.i64_in _ (by omega)
          refine bodyPost_ret (v := .tuple #[.agg #[.int .i64 t, .int .i64 r, .int .i64 s, .int .i64 p], v9, (.slice yo j yc), .int .i64 (50 * x6), .int .i64 gr, .int .i64 (100 * x8)]) (by simp [results, go_sem, y0, y1, y2, y3, ew]) rfl ⟨t, r, s, p, _, _, _, _, _, j + 1, j, updI j 5000 a, b, rfl, by omega, ?_, ?_, ?_⟩
          · repeat (first | exact T8.out.below | refine kept_drew ?_ | refine kept_set ?_ (Nat.le_refl _) _)
          · refine Out.sl (B := bb + 1) (e := 2) ?_ (by omega)
            repeat (first | exact T8.out.xs | exact T8.out.xs.kept (kept_drew (Below.refl _ _)) | refine Out.setU ?_ (by show W.heap.size < bb + 1; omega) _)
          · refine Out.sl (B := bb + 1) (e := 2) ?_ (by omega)
            repeat (first | exact T8.out.ys | exact T8.out.ys.kept (kept_drew (Below.refl _ _)) | refine Out.setU ?_ (by show W.heap.size < bb + 1; omega) _)
      · have K5 := T5.out.box.1
        have T6' := Lib.hid (T5.out.kept (kept_alloc (Below.refl _ _) (.cells #[.int .i64 (-1), .int .i64 100001] 2)))
        go_upto_region 22 with (first
          | (go_at_call 18; refine (d_Grade (W.heap.size + 1) _ _ hs6 (by omega)).mono ?_; rintro e w7 ⟨gr, rfl, hgr, hg7, hs7⟩)
          | (go_at_call 17; refine (HP.out _ _ 20 TB.out.src (by omega) (by omega)).mono ?_; rintro e w6 ⟨x6, rfl, hx6, hg6, hs6⟩)
          | ((at_builtin; refine wpList_append_own_at _ rfl _ _ 32 rfl _ 2 i0 _ 1 8 Tryz.underlying32 hi hz0 hz1 hz2 rfl (by decide) _ _ _ rfl ((T9.out.ys).row.alloc _) ⟨w9.heap.size, 0, none⟩ 1 1 _ (by rfl) (by rfl) (laid_at (by simp)) (by intro u hu; simp at hu; first | (rcases hu with rfl | rfl <;> rfl) | (subst hu; rfl)) (by simp only [maxLen]; omega) (by omega) (by have hbs := (kept_alloc (Below.refl w9.heap.size w9) (.cells #[] 0)).size; simp at hbs ⊢; omega) ?_; intro v11 w11 hown11 hgrow11 hnil11 hat11); have TB := Lib.hid (T9.out.swap.appX hbb hown11 hgrow11 hat11).swap; clear T9 hown11 hgrow11 hnil11 hat11)
          | ((at_builtin; refine wpList_append_own_at _ rfl _ _ 32 rfl _ 2 i0 _ 1 8 Tryz.underlying32 hi hz0 hz1 hz2 rfl (by decide) _ _ _ rfl ((TA.out.xs).row.alloc _) ⟨wa.heap.size, 0, none⟩ 1 1 _ (by rfl) (by rfl) (laid_at (by simp)) (by intro u hu; simp at hu; first | (rcases hu with rfl | rfl <;> rfl) | (subst hu; rfl)) (by simp only [maxLen]; omega) (by omega) (by have hbs := (kept_alloc (Below.refl wa.heap.size wa) (.cells #[] 0)).size; simp at hbs ⊢; omega) ?_; intro v9 w9 hown9 hgrow9 hnil9 hat9); have T9 := Lib.hid (TA.out.appX hbb hown9 hgrow9 hat9); have K9 := T9.out.box.1; clear TA hown9 hgrow9 hnil9 hat9)
          | (go_at_call 27; refine (src_among (W.heap.size + 1) w5.heap.size 2 2 _ (-1) 100001 _ T6'.out.src (by omega) (by omega) (by omega) (lit_cells w5 _ [-1, 100001] (by decide))).mono ?_; rintro e wa ⟨xa, rfl, hxa, hga, hsa⟩; have TA := Lib.hid (T6'.out.pick hbb hga hsa); have KA := TA.out.box.1; clear T5 T6' hga hsa))
        have T7 := Lib.hid ((TB.out.pick hbb hg6 hs6).pick hbb hg7 hs7)
        clear TB hg6 hg7 hs6 hs7
        obtain ⟨-, b0, b1, b2, b3, -⟩ := id T7.out.box
        go_region_with (go_at_call 17; refine (HP.out _ _ 50 (by first | exact T7.out.src | exact T7.out.src.kept (kept_drew (Below.refl _ _))) (by omega) (by omega)).mono ?_; rintro e w8 ⟨x8, rfl, hx8, hg8, hs8⟩; have T8 := Lib.hid ((T7.out.kept (kept_drew (Below.refl _ _))).pick hbb hg8 hs8); obtain ⟨-, c0, c1, c2, c3, -⟩ := id T8.out.box; obtain ⟨-, y0, y1, y2, y3, yf⟩ := id T8.out.zero; have f0 := yf 0; have f1 := yf 1; have f2 := yf 2; have f3 := yf 3)
        all_goals
          go_wp2_with fail
          have ew : IntKind.i64.wrap (100 * x8) = 100 * x8 := IntWalk.i64_in _ (by omega)
          refine bodyPost_ret (v := .tuple #[.agg #[.int .i64 t, .int .i64 r, .int .i64 s, .int .i64 p], v9, v11, .int .i64 (50 * x6), .int .i64 gr, .int .i64 (100 * x8)]) (by simp [results, go_sem, y0, y1, y2, y3, ew]) rfl ⟨t, r, s, p, _, _, _, _, _, j + 1, j + 1, updI j xa a, updI j 0 b, rfl, by omega, ?_, ?_, ?_⟩
          · repeat (first | exact T8.out.below | refine kept_drew ?_ | refine kept_set ?_ (Nat.le_refl _) _)
          · refine Out.sl (B := bb + 1) (e := 2) ?_ (by omega)
            repeat (first | exact T8.out.xs | exact T8.out.xs.kept (kept_drew (Below.refl _ _)) | refine Out.setU ?_ (by show W.heap.size < bb + 1; omega) _)
          · refine Out.sl (B := bb + 1) (e := 2) ?_ (by omega)
            repeat (first | exact T8.out.ys | exact T8.out.ys.kept (kept_drew (Below.refl _ _)) | refine Out.setU ?_ (by show W.heap.size < bb + 1; omega) _)
      · have K5 := T5.out.box.1
        have T6' := Lib.hid (T5.out.kept (kept_alloc (Below.refl _ _) (.cells #[.int .i64 24, .int .i64 25] 2)))
        go_upto_region 18 with (go_at_call 27; refine (src_among (W.heap.size + 1) w5.heap.size 2 2 _ 24 25 _ T6'.out.src (by omega) (by omega) (by omega) (lit_cells w5 _ [24, 25] (by decide))).mono ?_; rintro e wa ⟨xa, rfl, hxa, hga, hsa⟩)
        have TA := Lib.hid (T6'.out.pick hbb hga hsa)
        have KA := TA.out.box.1
        clear T5 T6' hga hsa
        obtain ⟨N, rfl⟩ : ∃ N : Nat, xa = (N : Int) := ⟨xa.toNat, by omega⟩
        have hmk := fun w : World => run_make_row' (P := Tryz.prog) 32 2 (.int .i64 0) 8 Tryz.underlying32 infoI rfl .i64 .i64 N (by omega) (by omega) w
        have TB := Lib.hid (show TripAt W ((wa.alloc (.cells (madeCells #[.int .i64 0] N) 2)).alloc (.cells (madeCells #[.int .i64 0] N) 2)) bb _ t r s p (.slice (some ⟨wa.heap.size, 0, none⟩) N N) (.slice (some ⟨wa.heap.size + 1, 0, none⟩) N N) N N (fun _ => 0) (fun _ => 0) from by
          have hx := Out.made (w := wa) (e := 2) (B := bb + 1) (n := N) (by omega) (by simp only [maxLen]; omega)
          have hy := Out.made (w := wa.alloc (.cells (madeCells #[.int .i64 0] N) 2)) (e := 2) (B := bb + 1) (n := N) (by simp; omega) (by simp only [maxLen]; omega)
          rw [show (wa.alloc (.cells (madeCells #[.int .i64 0] N) 2)).heap.size = wa.heap.size + 1 by simp] at hy
          have TT := TA.out.kept (w' := (wa.alloc (.cells (madeCells #[.int .i64 0] N) 2)).alloc (.cells (madeCells #[.int .i64 0] N) 2)) (kept_alloc (kept_alloc (Below.refl wa.heap.size wa) _) _)
          exact ⟨TT.below, TT.src, TT.zero, TT.box, hx.kept (kept_alloc (Below.refl _ _) _), hy, fun b hb e => by simp [Value.ownBlock] at hb e; omega⟩)
        go_upto_region 22 with (first
          | (go_at_call 18; refine (d_Grade (W.heap.size + 1) _ _ hs6 (by omega)).mono ?_; rintro e w7 ⟨gr, rfl, hgr, hg7, hs7⟩)
          | (go_at_call 17; refine (HP.out _ _ 20 TB.out.src (by omega) (by omega)).mono ?_; rintro e w6 ⟨x6, rfl, hx6, hg6, hs6⟩))
        have T7 := Lib.hid ((TB.out.pick hbb hg6 hs6).pick hbb hg7 hs7)
        clear TB hg6 hg7 hs6 hs7
        obtain ⟨-, b0, b1, b2, b3, -⟩ := id T7.out.box
        go_region_with (go_at_call 17; refine (HP.out _ _ 50 (by first | exact T7.out.src | exact T7.out.src.kept (kept_drew (Below.refl _ _))) (by omega) (by omega)).mono ?_; rintro e w8 ⟨x8, rfl, hx8, hg8, hs8⟩; have T8 := Lib.hid ((T7.out.kept (kept_drew (Below.refl _ _))).pick hbb hg8 hs8); obtain ⟨-, c0, c1, c2, c3, -⟩ := id T8.out.box; obtain ⟨-, y0, y1, y2, y3, yf⟩ := id T8.out.zero; have f0 := yf 0; have f1 := yf 1; have f2 := yf 2; have f3 := yf 3)
        all_goals
          go_wp2_with fail
          have ew : IntKind.i64.wrap (100 * x8) = 100 * x8 := IntWalk.i64_in _ (by omega)
          refine bodyPost_ret (v := .tuple #[.agg #[.int .i64 t, .int .i64 r, .int .i64 s, .int .i64 p], (.slice (some ⟨wa.heap.size, 0, none⟩) N N), (.slice (some ⟨wa.heap.size + 1, 0, none⟩) N N), .int .i64 (50 * x6), .int .i64 gr, .int .i64 (100 * x8)]) (by simp [results, go_sem, y0, y1, y2, y3, ew]) rfl ⟨t, r, s, p, _, _, _, _, _, N, N, fun _ => 0, fun _ => 0, rfl, by omega, ?_, ?_, ?_⟩
          · repeat (first | exact T8.out.below | refine kept_drew ?_ | refine kept_set ?_ (Nat.le_refl _) _)
          · refine Out.sl (B := bb + 1) (e := 2) ?_ (by omega)
            repeat (first | exact T8.out.xs | exact T8.out.xs.kept (kept_drew (Below.refl _ _)) | refine Out.setU ?_ (by show W.heap.size < bb + 1; omega) _)
          · refine Out.sl (B := bb + 1) (e := 2) ?_ (by omega)
            repeat (first | exact T8.out.ys | exact T8.out.ys.kept (kept_drew (Below.refl _ _)) | refine Out.setU ?_ (by show W.heap.size < bb + 1; omega) _)

end Go.Proofs.YtmgbbfbalmlpiaaGreatDoor
