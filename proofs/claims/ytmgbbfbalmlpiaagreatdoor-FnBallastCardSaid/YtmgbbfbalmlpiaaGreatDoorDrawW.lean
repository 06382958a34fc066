/- What is drawn for the water of a pull. -/
import Derived.Test.YtmgbbfbalmlpiaaGreatDoorDrawB
import Derived.Deep.RegionHeld3
namespace Go.Proofs.YtmgbbfbalmlpiaaGreatDoor
open Go.RowKit Go.Deep
set_option linter.unusedVariables false
set_option maxRecDepth 100000

set_option maxHeartbeats 1600000 in
theorem s_DrawWaterFor (v : Value) (n : Nat) (W : World) (h : ByS W v n) (hn : n ≤ 1048576) : Calls Tryz.prog 5 #[v] W fun e w' => ∃ t r s p tp bt rp gr nd : Int, e = .returned (.tuple #[.agg #[.int .i64 t, .int .i64 r, .int .i64 s, .int .i64 p], .int .i64 tp, .int .i64 bt, .int .i64 rp, .int .i64 gr, .int .i64 nd]) ∧ ((-1 ≤ t ∧ t ≤ 10000001) ∧ (-1 ≤ r ∧ r ≤ 10000001) ∧ (-1 ≤ tp ∧ tp ≤ 100001) ∧ (-10000 ≤ bt ∧ bt ≤ 200000) ∧ (0 ≤ rp ∧ rp ≤ 2000) ∧ (0 ≤ gr ∧ gr ≤ 901)) ∧ Below W.heap.size W w' := by
  have KA := kept_alloc (Below.refl W.heap.size W) (.cells #[.int .i64 0, .int .i64 0, .int .i64 0, .int .i64 0] 25)
  have HF := Lib.hid (src_from v n _ (h.kept KA) hn)
  have r0 := BoxAt.new W (.int .i64 0) (.int .i64 0) (.int .i64 0) (.int .i64 0) 25
  obtain ⟨-, ao, cap, rfl, -⟩ := h
  go_enter Tryz.func5, Tryz.ntmps5
  go_upto_region 2 with (go_at_call 14; refine HF.out.mono ?_; rintro e w1 ⟨rfl, hb1, hs1, hz1⟩)
  have ez : (W.alloc (.cells #[.int .i64 0, .int .i64 0, .int .i64 0, .int .i64 0] 25)).heap.size = W.heap.size + 1 := by simp
  have r1 := r0.kept hb1
  have K1 := kept_trans KA hb1
  rw [ez] at hs1 hz1
  clear r0 hb1 HF KA
  go_upto_region 3 with (go_at_call 15; first | (refine (d_Basin (W.heap.size + 1) 0 _ hs1 (by omega)).mono ?_; rintro e w2 ⟨t, r, s, p, rfl, hbd, hg2, hs2⟩))
  have K2 := K1.grown hg2 (by have := K1.size; omega) (fun r e => by have e2 : W.heap.size + 1 = r := Option.some.inj e; omega)
  have r2 := (r1.grown hg2 (by omega)).kept (kept_alloc (Below.refl w2.heap.size w2) (.cells #[.int .i64 t, .int .i64 r, .int .i64 s, .int .i64 p] 25))
  have rB := BoxAt.new w2 (.int .i64 t) (.int .i64 r) (.int .i64 s) (.int .i64 p) 25
  have K3 := K2.alloc K2.size (.cells #[.int .i64 t, .int .i64 r, .int .i64 s, .int .i64 p] 25)
  have hs3 := hs2.kept (kept_alloc (Below.refl w2.heap.size w2) (.cells #[.int .i64 t, .int .i64 r, .int .i64 s, .int .i64 p] 25))
  have hbb : W.heap.size + 1 < w2.heap.size := hs2.1
  clear r1 K1 K2 hs1 hs2 hg2 ez hz1
  generalize w2.heap.size = bb at *
  generalize w2.alloc (.cells #[.int .i64 t, .int .i64 r, .int .i64 s, .int .i64 p] 25) = w3 at *
  go_upto_region 4 with (go_at_call 16; refine (d_Kilos (W.heap.size + 1) _ _ hs3 (by omega)).mono ?_; rintro e w4 ⟨tp, rfl, htp, hg4, hs4⟩)
  have K4 := K3.grown hg4 K3.size (fun r e => by have e2 : W.heap.size + 1 = r := Option.some.inj e; omega)
  have r4 := r2.grown hg4 (by omega)
  have rB4 := rB.grown hg4 (by omega)
  clear K3 r2 rB hs3 hg4
  go_upto_region 5 with (go_at_call 17; refine (src_pick (W.heap.size + 1) _ 40 _ hs4 (by omega) (by omega)).mono ?_; rintro e w5 ⟨x5, rfl, hx5, hg5, hs5⟩)
  have K5 := K4.grown hg5 K4.size (fun r e => by have e2 : W.heap.size + 1 = r := Option.some.inj e; omega)
  have r5 := r4.grown hg5 (by omega)
  have rB5 := rB4.grown hg5 (by omega)
  clear K4 r4 rB4 hs4 hg5
  go_upto_region 6 with (go_at_call 17; refine (src_pick (W.heap.size + 1) _ 30 _ hs5 (by omega) (by omega)).mono ?_; rintro e w6 ⟨x6, rfl, hx6, hg6, hs6⟩)
  have K6 := K5.grown hg6 K5.size (fun r e => by have e2 : W.heap.size + 1 = r := Option.some.inj e; omega)
  have r6 := r5.grown hg6 (by omega)
  have rB6 := rB5.grown hg6 (by omega)
  clear K5 r5 rB5 hs5 hg6
  go_upto_region 7 with (go_at_call 18; refine (d_Grade (W.heap.size + 1) _ _ hs6 (by omega)).mono ?_; rintro e w7 ⟨gr, rfl, hgr, hg7, hs7⟩)
  have K7 := K6.grown hg7 K6.size (fun r e => by have e2 : W.heap.size + 1 = r := Option.some.inj e; omega)
  have r7 := r6.grown hg7 (by omega)
  have rB7 := rB6.grown hg7 (by omega)
  clear K6 r6 rB6 hs6 hg7
  have HND := Lib.hid (fun w h => d_Need (W.heap.size + 1) (0 + 12 + 4 + 2 + 2 + 2) w h (by omega))
  obtain ⟨-, b0, b1, b2, b3, -⟩ := id rB7
  go_region_with (go_at_call 19; refine (HND.out _ (by first | exact hs7 | exact hs7.kept (kept_drew (Below.refl _ _)))).mono ?_; rintro e w8 ⟨nd, rfl, hnd, hg8, hs8⟩; have K8 := (K7.drew).grown hg8 K7.size (fun r e => by have e2 : W.heap.size + 1 = r := Option.some.inj e; omega); have r8 := (r7.drew).grown hg8 (by omega); have rB8 := (rB7.drew).grown hg8 (by omega); obtain ⟨-, c0, c1, c2, c3, -⟩ := id rB8; obtain ⟨-, y0, y1, y2, y3, yf⟩ := id r8; have f0 := yf 0; have f1 := yf 1; have f2 := yf 2; have f3 := yf 3)
  all_goals
    go_wp2_with fail
    refine bodyPost_ret (v := .tuple #[.agg #[.int .i64 t, .int .i64 r, .int .i64 s, .int .i64 p], .int .i64 tp, .int .i64 (tp + 100 * x5 - 1500), .int .i64 (50 * x6), .int .i64 gr, .int .i64 nd]) (by simp [results, go_sem, y0, y1, y2, y3]) rfl ⟨_, _, _, _, _, _, _, _, _, rfl, by omega, ?_⟩
    repeat (first | exact K8 | refine kept_drew ?_ | refine kept_set ?_ (Nat.le_refl _) _)

end Go.Proofs.YtmgbbfbalmlpiaaGreatDoor
