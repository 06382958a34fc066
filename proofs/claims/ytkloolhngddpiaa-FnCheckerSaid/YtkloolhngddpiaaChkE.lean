/- All that is reached: the program's walk. -/
import Derived.Test.YtkloolhngddpiaaChkD
import Derived.Test.YtkloolhngddpiaaChkG
import Derived.Laws.AppendOwn
namespace Go.Proofs.Ytkloolhngddpiaa
open Go.RowKit Go.Deep
set_option linter.unusedVariables false
set_option maxRecDepth 100000

theorem infoState : (Try.prog.info? 53).map (fun i => (i.zero, i.size, i.bytes)) = some (some (.agg #[.int .i64 0, .bool false, .bool false, .bool false, .bool false]), 5, 16) := by kernel_rfl
theorem infoMove : (Try.prog.info? 77).map (fun i => (i.zero, i.size, i.bytes)) = some (some (.agg #[.int .i64 0, .int .i64 0, .int .i64 0]), 3, 24) := by kernel_rfl

/-- Two rows of other types lie apart. -/
theorem own_apart {w : World} {B B' k k' n n' : Nat} {e e' : TypeId} {v v' : Value} {xs xs' : List Value} (h : w.ownsRow B e k v n xs) (h' : w.ownsRow B' e' k' v' n' xs') (he : e ≠ e') : v.ownBlock = none ∨ v.ownBlock ≠ v'.ownBlock := by
  rcases h.2 with ⟨rfl, _⟩ | ⟨g, cap, cur, rfl, _, hg, _⟩
  · exact .inl rfl
  · rcases h'.2 with ⟨rfl, _⟩ | ⟨g', cap', cur', rfl, _, hg', _⟩
    · right; simp [Value.ownBlock]
    · right
      intro hh
      simp only [Value.ownBlock, Option.some.injEq] at hh
      subst hh
      rw [hg] at hg'
      simp only [Option.some.injEq, Obj.cells.injEq] at hg'
      exact he hg'.2.1
theorem Out.across {w w1 : World} {o : Obj} {B B' k k' n n' : Nat} {e e' : TypeId} {v v' : Value} {f : Nat → Value} {xs : List Value} (h2 : Out w B' e' k' v' n' f) (h1 : w.ownsRow B e k v n xs) (he : e' ≠ e) (hg : (w.alloc o).grownBy w1 v.ownBlock) : Out w1 B' e' k' v' n' f :=
  World.ownsRow.kept (h2.kept (kept_alloc (Below.refl _ _) o)) hg (own_apart h2 h1 he)
theorem below_append {W wr w1 : World} {x : Obj} {v : Value} {B n k : Nat} {e : TypeId} {xs : List Value} (hb : Below W.heap.size W wr) (hB : W.heap.size ≤ B) (ho : wr.ownsRow B e k v n xs) (hg : (wr.alloc x).grownBy w1 v.ownBlock) : Below W.heap.size W w1 :=
  (kept_alloc hb x).grown hg (by have := hb.size; simp; omega) (fun b hbk => Nat.le_trans hB (ho.lt b hbk).1)

def nc (L : List Nat) : Nat → Value := fun j => .int .i64 (nth L j : Nat)
theorem nc_ic (L : List Nat) : nc L = ic (fun j => (nth L j : Int)) := rfl
theorem out_n {w : World} {B : Nat} {e : TypeId} {v : Value} {L : List Nat} {y n : Nat} (hn : L.length = n) (h : w.ownsRow B e 1 v (n + 1) (cellsN (nc L) (n * 1) ++ [.int .i64 (y : Nat)])) : Out w B e 1 v (n + 1) (nc (L ++ [y])) := by
  subst hn
  refine Out.snoc1 (u := .int .i64 (y : Nat)) ?_ (by simp only [nc, nth_app_at])
  rw [cellsN_congr (f := nc (L ++ [y])) (f' := nc L) (fun i hi => by simp only [nc]; rw [nth_app_lt (by omega)])]
  exact h
def EvPost (c : Nat) (W : World) (en : Ending) (W' : World) : Prop := ∃ v, en = .returned v ∧ Below W.heap.size W W' ∧ Out W' W.heap.size 2 1 v (evs c 9).length (nc (evs c 9))

set_option maxHeartbeats 800000 in
theorem i_allowedEvents (c : Nat) (W : World) (hc : c < 80) :
    Calls Try.prog 117 #[.agg #[.int .i64 (cm c : Nat), .bool (co c), .bool (ca c), .bool (cb c), .bool (ce c)]] W (EvPost c W) := by
  obtain ⟨i0, hi, hz0, hz1, hz2⟩ := info_parts infoInt
  have KB := kept_alloc (Below.refl W.heap.size W) (.cells #[.int .i64 (cm c : Nat), .bool (co c), .bool (ca c), .bool (cb c), .bool (ce c)] 53)
  obtain ⟨WB, hWB⟩ : ∃ WB, WB = W.alloc (.cells #[.int .i64 (cm c : Nat), .bool (co c), .bool (ca c), .bool (cb c), .bool (ce c)] 53) := ⟨_, rfl⟩
  have Q0 : Hid (WB.cell? ⟨W.heap.size, 0, none⟩ = some (.int .i64 (cm c : Nat))) := by rw [hWB]; exact boxed_at rfl rfl
  have Q1 : Hid (WB.cell? ⟨W.heap.size, 1, none⟩ = some (.bool (co c))) := by rw [hWB]; exact boxed_at rfl rfl
  have Q2 : Hid (WB.cell? ⟨W.heap.size, 2, none⟩ = some (.bool (ca c))) := by rw [hWB]; exact boxed_at rfl rfl
  have Q3 : Hid (WB.cell? ⟨W.heap.size, 3, none⟩ = some (.bool (cb c))) := by rw [hWB]; exact boxed_at rfl rfl
  have Q4 : Hid (WB.cell? ⟨W.heap.size, 4, none⟩ = some (.bool (ce c))) := by rw [hWB]; exact boxed_at rfl rfl
  rw [← hWB] at KB
  have HWB := Lib.hid hWB
  clear hWB
  go_enter Try.func117, Try.ntmps117
  go_wp2
  rw [← HWB.out]
  go_loopw [3, 4] (fun u i wr => ∃ (k n : Nat) (E : List Nat) (x : Value), k ≤ 10 ∧ 1 ≤ k ∧ i = .int .i64 k ∧ x = u ∧ Hid (E = evs c (k - 1)) ∧ Hid (E.length = n) ∧ n < k ∧ Below WB.heap.size WB wr ∧ Out wr WB.heap.size 2 1 x n (nc E)) (fun _ i _ => 10 - (intOf i).toNat)
  case atStart => exact ⟨1, 0, [], _, by omega, by omega, rfl, rfl, rfl, rfl, by omega, Below.refl _ _, Out.nil _ _ _ _ _⟩
  case round =>
    obtain ⟨k, n, E, x, hk, hk1, rfl, rfl, hE, hEn, hnk, hb, hown⟩ := hrel
    by_cases hlt : k < 10
    · have hle : (k : Int) ≤ 9 := by omega
      have q0 := cell_keep hb Q0.out
      have q1 := cell_keep hb Q1.out
      have q2 := cell_keep hb Q2.out
      have q3 := cell_keep hb Q3.out
      have q4 := cell_keep hb Q4.out
      have HC := Lib.hid (fun w => i_isAllowed c k w hc (by omega))
      cases ha : al c k
      · rw [ha] at HC
        have HE : Hid (E = evs c k) := by rw [evs_no hk1 ha]; exact hE.out
        clear ha
        go_wp2_with (first | (go_at_call 127; refine (HC.out _).mono ?_; rintro e w2 ⟨rfl, hb2⟩))
        go_roundw
        case rel => exact ⟨k + 1, n, E, _, by omega, by omega, by go_num, rfl, HE, hEn, by omega, kept_trans hb hb2, hown.kept hb2⟩
        case measure => simp [intOf]; omega
      · rw [ha] at HC
        have HE := Lib.hid (show E ++ [k] = evs c k by rw [evs_yes hk1 ha, ← hE.out])
        have HEn := Lib.hid (show (E ++ [k]).length = n + 1 by simp [hEn.out])
        clear ha
        go_wp2_with (first | (go_at_call 127; refine (HC.out _).mono ?_; rintro e w2 ⟨rfl, hb2⟩; have hownA := hown.kept hb2; have hbA := kept_trans hb hb2) | (at_builtin; refine wpList_append_own _ rfl _ _ 35 rfl _ 2 i0 _ 1 8 Try.underlying35 hi hz0 hz1 hz2 rfl (by decide) _ _ _ rfl ((hownA).row.alloc _) ⟨w2.heap.size, 0, none⟩ 1 1 _ (by rfl) (by rfl) (laid_at (by simp)) (by intro u hu; simp at hu; first | (rcases hu with rfl | rfl <;> rfl) | (subst hu; rfl)) (by simp only [maxLen]; omega) (by omega) (by have hbs := hbA.size; simp at hbs ⊢; omega) ?_; intro v1 w1 hown1 hgrow1 _))
        have R1 := out_n hEn.out hown1
        have R2 := below_append hbA (Nat.le_refl _) hownA.row hgrow1
        clear hown hownA hown1 hgrow1 hbA hb
        try go_wp2
        go_roundw
        case rel => exact ⟨k + 1, n + 1, E ++ [k], _, by omega, by omega, by go_num, rfl, HE, HEn, by omega, R2, R1⟩
        case measure => simp [intOf]; omega
    · obtain rfl : k = 10 := by omega
      go_wp2
      go_ret
      have hE := hE.out
      simp only [show 10 - 1 = 9 from rfl] at hE
      subst hE
      rw [← hEn.out] at hown
      exact ⟨_, rfl, kept_trans KB hb, hown.base_le KB.size⟩

def ReachPost (x : Nat) (W : World) (en : Ending) (W' : World) : Prop := ∃ v1 v2, en = .returned (.tuple #[v1, v2]) ∧ Below W.heap.size W W' ∧ Out W' W.heap.size 53 5 v1 (R x).length (stc (R x)) ∧ Out W' W.heap.size 77 3 v2 (M x).length (mvc (M x))
theorem Out.row_at {w : World} {B k g n cap : Nat} {e : TypeId} {f : Nat → Value} (h : Out w B e k (.slice (some ⟨g, 0, none⟩) n cap) n f) : Row w g 0 (n * k) f :=
  (Row.of_own h).congr fun i hi => cellsN_getD hi
theorem out_one {w : World} {e : TypeId} {c k : Nat} {B : Nat} (hk : w.heap.size = k) (hB : B ≤ w.heap.size) : Out (w.alloc (.cells #[.int .i64 (cm c : Nat), .bool (co c), .bool (ca c), .bool (cb c), .bool (ce c)] e)) B e 5 (.slice (some ⟨k, 0, none⟩) 1 1) 1 (stc [c]) := by
  subst hk
  refine out_st (L := []) (y := c) (n := 0) rfl ⟨by simp [cellsN], .inr ⟨w.heap.size, 1, _, rfl, hB, heap_alloc_new w _, by omega, by simp [maxLen], by simp, by simp [cellsN]⟩⟩

set_option maxHeartbeats 3200000 in
theorem i_reached (x : Nat) (W : World) (hx : x < 80) :
    Calls Try.prog 87 #[.agg #[.int .i64 (cm x : Nat), .bool (co x), .bool (ca x), .bool (cb x), .bool (ce x)]] W (ReachPost x W) := by
  obtain ⟨i0s, his, hz0s, hz1s, hz2s⟩ := info_parts infoState
  obtain ⟨i0m, him, hz0m, hz1m, hz2m⟩ := info_parts infoMove
  have KB := kept_alloc (Below.refl W.heap.size W) (.cells #[.int .i64 (cm x : Nat), .bool (co x), .bool (ca x), .bool (cb x), .bool (ce x)] 53)
  obtain ⟨WB, hWB⟩ : ∃ WB, WB = W.alloc (.cells #[.int .i64 (cm x : Nat), .bool (co x), .bool (ca x), .bool (cb x), .bool (ce x)] 53) := ⟨_, rfl⟩
  have KB2 := kept_alloc (Below.refl WB.heap.size WB) (.cells #[.int .i64 (cm x : Nat), .bool (co x), .bool (ca x), .bool (cb x), .bool (ce x)] 53)
  have O1 : Hid (Out (WB.alloc (.cells #[.int .i64 (cm x : Nat), .bool (co x), .bool (ca x), .bool (cb x), .bool (ce x)] 53)) WB.heap.size 53 5 (.slice (some ⟨WB.heap.size, 0, none⟩) 1 1) 1 (stc [x])) := out_one rfl (Nat.le_refl _)
  have hWs : WB.heap.size = W.heap.size + 1 := by rw [hWB]; simp
  rw [← hWB] at KB
  have O1' : Hid (Out (WB.alloc (.cells #[.int .i64 (cm x : Nat), .bool (co x), .bool (ca x), .bool (cb x), .bool (ce x)] 53)) WB.heap.size 53 5 (.slice (some ⟨W.heap.size + 1, 0, none⟩) 1 1) 1 (stc [x])) := by rw [← hWs]; exact O1.out
  have HWB := Lib.hid hWB
  clear hWB hWs O1
  go_enter Try.func87, Try.ntmps87
  go_wp2
  rw [← HWB.out]
  go_loopw [4, 5, 6] (fun u1 u2 i wr => ∃ (k n1 n2 : Nat) (L : List Nat) (ms : List (Nat × Nat × Nat)) (x1 x2 : Value), k ≤ 20 ∧ n1 ≤ 20 ∧ n2 ≤ 9 * k ∧ i = .int .i64 k ∧ x1 = u1 ∧ x2 = u2 ∧ Hid (runI x k = (L, ms)) ∧ Hid (L.length = n1) ∧ Hid (ms.length = n2) ∧ Below WB.heap.size WB wr ∧ Out wr WB.heap.size 53 5 x1 n1 (stc L) ∧ Out wr WB.heap.size 77 3 x2 n2 (mvc ms)) (fun _ _ i _ => 20 - (intOf i).toNat)
  case atStart => exact ⟨0, 1, 0, [x], [], _, _, by omega, by omega, by omega, rfl, rfl, rfl, rfl, rfl, rfl, KB2, O1'.out, Out.nil _ _ _ _ _⟩
  case round =>
    obtain ⟨k, n1, n2, L, ms, x1, x2, hk, hn1, hn2, rfl, rfl, rfl, hR, hL, hM, hb, ho1, ho2⟩ := hrel
    by_cases hlt : k < n1
    · have hF := runI_facts hx k
      have hk2 : k < (runI x k).1.length := by rw [hR.out]; show k < L.length; rw [hL.out]; exact hlt
      have hstep := runI_step hk2
      have hIF := inI_facts hk2 hF.2.1
      rw [hR.out] at hF hstep hIF
      simp only at hF hstep hIF
      obtain ⟨c, hc⟩ : ∃ c, nth L k = c := ⟨_, rfl⟩
      rw [hc] at hstep hIF
      have hc80 : c < 80 := by rw [← hc]; exact hF.2.1 k (by rw [hL.out]; exact hlt)
      obtain ⟨na, hna⟩ : ∃ na, (evs c 9).length = na := ⟨_, rfl⟩
      have hna9 : na ≤ 9 := by rw [← hna]; exact evs_len c 9
      have hna0 : 0 < na := by rw [← hna]; have := all80_out evs_pos c hc80; simpa using this
      obtain ⟨E, hE⟩ : ∃ E, evs c 9 = E := ⟨_, rfl⟩
      have HEV := Lib.hid (evs_in c 9)
      have HS := Lib.hid hstep
      have HIF := Lib.hid hIF
      have HC := Lib.hid (fun w => i_allowedEvents c w hc80)
      unfold EvPost at HC
      rw [hna] at HC HS HEV HIF
      rw [hE] at HC HEV
      have HE := Lib.hid hE
      clear hE
      obtain ⟨g1, cap1, rfl, hg1, hr1⟩ := ho1.opened (by omega)
      obtain ⟨s0, s1, s2, s3, s4⟩ := stcells hr1 hlt hc
      simp only [Nat.zero_add] at s0 s1 s2 s3 s4
      have HC1 := Lib.hid hc
      clear hF hstep hIF hc hr1 hna hk2
      go_wp2_with (first | (go_at_call 117; refine (HC.out _).mono ?_; rintro e w2 ⟨va, rfl, hb2, hoa⟩; obtain ⟨ga, capa, rfl, hga, hra⟩ := hoa.opened (by omega)))
      have hoE := hoa.base_le hb.size
      have ho1B := ho1.kept hb2
      have ho2B := ho2.kept hb2
      have hb22 := kept_trans hb hb2
      clear s0 s1 s2 s3 s4 hoa hra ho1 ho2 hb hb2 HC
      go_loopw [4, 5, 25] (fun u1 u2 i wq => ∃ (j m1 m2 : Nat) (L' : List Nat) (ms' : List (Nat × Nat × Nat)) (y1 y2 : Value), j ≤ na ∧ m1 ≤ n1 + j ∧ m2 ≤ n2 + j ∧ k < m1 ∧ i = .int .i64 j ∧ y1 = u1 ∧ y2 = u2 ∧ Hid (inI k (L, ms) j = (L', ms')) ∧ Hid (L'.length = m1) ∧ Hid (ms'.length = m2) ∧ Below WB.heap.size WB wq ∧ Out wq WB.heap.size 53 5 y1 m1 (stc L') ∧ Out wq WB.heap.size 77 3 y2 m2 (mvc ms') ∧ Out wq WB.heap.size 2 1 (.slice (some ⟨ga, 0, none⟩) na capa) na (nc E)) (fun _ _ i _ => na - (intOf i).toNat)
      case atStart => exact ⟨0, n1, n2, L, ms, _, _, by omega, by omega, by omega, hlt, rfl, rfl, rfl, rfl, hL, hM, hb22, ho1B, ho2B, hoE⟩
      case round =>
        clear hb22 ho1B ho2B hoE
        obtain ⟨j, m1, m2, L', ms', y1, y2, hj, hm1, hm2, hkm, rfl, rfl, rfl, hI, hL', hM', hbq, hp1, hp2, hpE⟩ := hrel
        by_cases hjn : j < na
        · obtain ⟨e, he⟩ : ∃ e, nth E j = e := ⟨_, rfl⟩
          have hev := HEV.out j hjn
          rw [he] at hev
          obtain ⟨he1, he9⟩ := hev
          have hif := HIF.out j hj
          rw [hI.out] at hif
          simp only at hif
          obtain ⟨-, -, hlow, hpre, -⟩ := hif
          have hLc : nth L' k = c := by rw [hpre k (by rw [hL.out]; exact hlt)]; exact HC1.out
          obtain ⟨y, hy⟩ : ∃ y, nx c e = y := ⟨_, rfl⟩
          have hy80 : y < 80 := by rw [← hy]; exact nx_low hc80 (by omega)
          have HA := Lib.hid (fun w => i_after c e w hc80 ⟨he1, he9⟩)
          rw [hy] at HA
          have hnext : inI k (L, ms) (j + 1) = (putN L' y, ms' ++ [(k, e, idxN L' y)]) := by
            show (putN (inI k (L, ms) j).1 (nx (nth L k) (nth (evs (nth L k) 9) j)), (inI k (L, ms) j).2 ++ [(k, nth (evs (nth L k) 9) j, idxN (inI k (L, ms) j).1 (nx (nth L k) (nth (evs (nth L k) 9) j)))]) = _
            rw [HC1.out, HE.out, he, hy, hI.out]
          have HX := Lib.hid (fun w v hs => i_Index v m1 y L' w hs hL'.out (by omega) hy80 (fun i hi => hlow i (by rw [hL'.out]; exact hi)))
          obtain ⟨g2, cap2, rfl, hg2, hr2⟩ := hp1.opened (by omega)
          obtain ⟨s0, s1, s2, s3, s4⟩ := stcells hr2 hkm hLc
          have r0 := hpE.row_at.cell (i := j) (by omega)
          simp only [nc, Nat.zero_add, he] at r0 s0 s1 s2 s3 s4
          cases hh : hasN L' y
          · rw [put_no hh, idx_none hh, hL'.out] at hnext
            rw [fi_hasnt hh] at HX
            have HN := Lib.hid hnext
            have HLl := Lib.hid (show (L' ++ [y]).length = m1 + 1 by simp [hL'.out])
            have HMl := Lib.hid (show (ms' ++ [(k, e, m1)]).length = m2 + 1 by simp [hM'.out])
            have hLm := hL'
            clear hnext hh hlow hpre hLc he hy hr2
            go_wp2_with (first | (go_at_call 118; refine (HA.out _).mono ?_; rintro e' w3 ⟨rfl, hb3⟩) | (go_at_call 94; refine (HX.out _ _ ((hp1.kept (kept_alloc hb3 _)).sl (by omega))).mono ?_; rintro e' w4 ⟨rfl, hb4⟩; have hk4 := kept_trans (kept_alloc hb3 _) hb4; have b0 := cell_keep hb4 (boxed_at (i := 0) rfl rfl); have b1 := cell_keep hb4 (boxed_at (i := 1) rfl rfl); have b2 := cell_keep hb4 (boxed_at (i := 2) rfl rfl); have b3 := cell_keep hb4 (boxed_at (i := 3) rfl rfl); have b4 := cell_keep hb4 (boxed_at (i := 4) rfl rfl); have hp1A := hp1.kept hk4; have hp2A := hp2.kept hk4; have hpEA := hpE.kept hk4; have hbA := kept_trans hbq hk4) | ((at_builtin; refine wpList_append_own _ rfl _ _ 61 rfl _ 53 i0s _ 5 16 Try.underlying61 his hz0s hz1s hz2s rfl (by decide) _ _ _ rfl ((hp1A).row.alloc _) ⟨w4.heap.size, 0, none⟩ 1 1 _ (by rfl) (by rfl) (laid_at (by simp)) (by intro u hu; simp at hu; first | (rcases hu with rfl | rfl | rfl | rfl | rfl <;> rfl) | (rcases hu with rfl | rfl | rfl <;> rfl) | (rcases hu with rfl | rfl <;> rfl) | (subst hu; rfl)) (by simp only [maxLen]; omega) (by omega) (by have hbs := hbA.size; simp at hbs ⊢; omega) ?_; intro vs ws howns hgrows _); have hp2B := hp2A.across hp1A.row (by decide) hgrows; have hpEB := hpEA.across hp1A.row (by decide) hgrows; have hbB := below_append hbA (Nat.le_refl _) hp1A.row hgrows) | (at_builtin; refine wpList_append_own _ rfl _ _ 56 rfl _ 77 i0m _ 3 24 Try.underlying56 him hz0m hz1m hz2m rfl (by decide) _ _ _ rfl ((hp2B).row.alloc _) ⟨ws.heap.size, 0, none⟩ 1 1 _ (by rfl) (by rfl) (laid_at (by simp)) (by intro u hu; simp at hu; first | (rcases hu with rfl | rfl | rfl | rfl | rfl <;> rfl) | (rcases hu with rfl | rfl | rfl <;> rfl) | (rcases hu with rfl | rfl <;> rfl) | (subst hu; rfl)) (by simp only [maxLen]; omega) (by omega) (by have hbs := hbB.size; simp at hbs ⊢; omega) ?_; intro vm wm hownm hgrowm _))
            have R1 := (out_st hL'.out howns).across hp2B.row (by decide) hgrowm
            have R2 := out_mv hM'.out hownm
            have R3 := hpEB.across hp2B.row (by decide) hgrowm
            have R4 := below_append hbB (Nat.le_refl _) hp2B.row hgrowm
            clear hp1 hp2 hpE hp1A hp2A hpEA hp2B hpEB hownm howns hgrows hgrowm hbA hbB hbq b0 b1 b2 b3 b4
            try go_wp2
            go_roundw
            case rel => exact ⟨j + 1, m1 + 1, m2 + 1, L' ++ [y], ms' ++ [(k, e, m1)], _, _, by omega, by omega, by omega, by omega, by go_num, rfl, rfl, HN, HLl, HMl, R4, R1, R2, R3⟩
            case measure => simp [intOf]; omega
          · obtain ⟨t, ht⟩ : ∃ t, idxN L' y = t := ⟨_, rfl⟩
            have htl : t < m1 := by rw [← ht, ← hL'.out]; exact idx_lt hh
            rw [put_yes hh, ht] at hnext
            rw [fi_has hh, ht] at HX
            have HN := Lib.hid hnext
            have HMl := Lib.hid (show (ms' ++ [(k, e, t)]).length = m2 + 1 by simp [hM'.out])
            clear hnext hh hlow hpre hLc he hy hr2 ht
            go_wp2_with (first | (go_at_call 118; refine (HA.out _).mono ?_; rintro e' w3 ⟨rfl, hb3⟩) | (go_at_call 94; refine (HX.out _ _ ((hp1.kept (kept_alloc hb3 _)).sl (by omega))).mono ?_; rintro e' w4 ⟨rfl, hb4⟩; have hk4 := kept_trans (kept_alloc hb3 _) hb4; have hp1A := hp1.kept hk4; have hp2A := hp2.kept hk4; have hpEA := hpE.kept hk4; have hbA := kept_trans hbq hk4) | (at_builtin; refine wpList_append_own _ rfl _ _ 56 rfl _ 77 i0m _ 3 24 Try.underlying56 him hz0m hz1m hz2m rfl (by decide) _ _ _ rfl ((hp2A).row.alloc _) ⟨w4.heap.size, 0, none⟩ 1 1 _ (by rfl) (by rfl) (laid_at (by simp)) (by intro u hu; simp at hu; first | (rcases hu with rfl | rfl | rfl | rfl | rfl <;> rfl) | (rcases hu with rfl | rfl | rfl <;> rfl) | (rcases hu with rfl | rfl <;> rfl) | (subst hu; rfl)) (by simp only [maxLen]; omega) (by omega) (by have hbs := hbA.size; simp at hbs ⊢; omega) ?_; intro vm wm hownm hgrowm _))
            have R1 := hp1A.across hp2A.row (by decide) hgrowm
            have R2 := out_mv hM'.out hownm
            have R3 := hpEA.across hp2A.row (by decide) hgrowm
            have R4 := below_append hbA (Nat.le_refl _) hp2A.row hgrowm
            clear hp1 hp2 hpE hp1A hp2A hpEA hownm hgrowm hbA hbq
            try go_wp2
            go_roundw
            case rel => exact ⟨j + 1, m1, m2 + 1, L', ms' ++ [(k, e, t)], _, _, by omega, by omega, by omega, by omega, by go_num, rfl, rfl, HN, hL', HMl, R4, R1, R2, R3⟩
            case measure => simp [intOf]; omega
        · obtain rfl : j = na := by omega
          have hend := HS.out
          rw [hI.out] at hend
          have HEND := Lib.hid hend
          have hlen := runI_len hx (show k + 1 ≤ 20 by omega)
          rw [hend] at hlen
          simp only at hlen
          rw [hL'.out] at hlen
          clear hend
          go_wp2
          go_roundw
          case rel => exact ⟨k + 1, m1, m2, L', ms', _, _, by omega, by omega, by omega, by go_num, rfl, rfl, HEND, hL', hM', hbq, hp1, hp2⟩
          case measure => simp [intOf]; omega
    · have hend := reach_end hx hk (by rw [hR.out]; show L.length ≤ k; rw [hL.out]; omega)
      rw [hR.out] at hend
      obtain ⟨hend1, hend2⟩ := hend
      simp only at hend1 hend2
      have P1 : Hid (Out wr WB.heap.size 53 5 x1 (R x).length (stc (R x))) := by rw [← hend1, hL.out]; exact ho1
      have P2 : Hid (Out wr WB.heap.size 77 3 x2 (M x).length (mvc (M x))) := by rw [← hend2, hM.out]; exact ho2
      have Z1 := ho1.sl (by omega)
      obtain ⟨-, ao1, cap1, rfl, -⟩ := Z1
      clear hend1 hend2 ho1 ho2
      go_wp2
      refine bodyPost_ret (results_tmp2 rfl _ _ _) rfl ⟨.slice ao1 n1 cap1, x2, rfl, kept_trans KB hb, P1.out.base_le KB.size, P2.out.base_le KB.size⟩

end Go.Proofs.Ytkloolhngddpiaa
