/- All that is reached, and the moves: the reference's walks. -/
import Derived.Test.YtkloolhngddpiaaChkE
namespace Go.Proofs.Ytkloolhngddpiaa
open Go.RowKit Go.Deep
set_option linter.unusedVariables false
set_option maxRecDepth 100000

def SReachPost (x : Nat) (W : World) (en : Ending) (W' : World) : Prop := ∃ v1, en = .returned v1 ∧ Below W.heap.size W W' ∧ Out W' W.heap.size 53 5 v1 (R x).length (stc (R x))

set_option maxHeartbeats 3200000 in
theorem s_l15Reached (x : Nat) (W : World) (hx : x < 80) :
    Calls Try.prog 85 #[.agg #[.int .i64 (cm x : Nat), .bool (co x), .bool (ca x), .bool (cb x), .bool (ce x)]] W (SReachPost x W) := by
  obtain ⟨i0s, his, hz0s, hz1s, hz2s⟩ := info_parts infoState
  have KB := kept_alloc (Below.refl W.heap.size W) (.cells #[.int .i64 (cm x : Nat), .bool (co x), .bool (ca x), .bool (cb x), .bool (ce x)] 53)
  obtain ⟨WB, hWB⟩ : ∃ WB, WB = W.alloc (.cells #[.int .i64 (cm x : Nat), .bool (co x), .bool (ca x), .bool (cb x), .bool (ce x)] 53) := ⟨_, rfl⟩
  have KB2 := kept_alloc (Below.refl WB.heap.size WB) (.cells #[.int .i64 (cm x : Nat), .bool (co x), .bool (ca x), .bool (cb x), .bool (ce x)] 53)
  have O1 : Hid (Out (WB.alloc (.cells #[.int .i64 (cm x : Nat), .bool (co x), .bool (ca x), .bool (cb x), .bool (ce x)] 53)) WB.heap.size 53 5 (.slice (some ⟨WB.heap.size, 0, none⟩) 1 1) 1 (stc [x])) := out_one rfl (Nat.le_refl _)
  have hWs : WB.heap.size = W.heap.size + 1 := by rw [hWB]; simp
  rw [← hWB] at KB
  have O1' : Hid (Out (WB.alloc (.cells #[.int .i64 (cm x : Nat), .bool (co x), .bool (ca x), .bool (cb x), .bool (ce x)] 53)) WB.heap.size 53 5 (.slice (some ⟨W.heap.size + 1, 0, none⟩) 1 1) 1 (stc [x])) := by rw [← hWs]; exact O1.out
  have HWB := Lib.hid hWB
  clear hWB hWs O1
  go_enter Try.func85, Try.ntmps85
  go_wp2
  rw [← HWB.out]
  go_loopw [3, 4] (fun u1 i wr => ∃ (k n1 : Nat) (L : List Nat) (x1 : Value), k ≤ 20 ∧ n1 ≤ 20 ∧ i = .int .i64 k ∧ x1 = u1 ∧ Hid (runS x k = L) ∧ Hid (L.length = n1) ∧ Below WB.heap.size WB wr ∧ Out wr WB.heap.size 53 5 x1 n1 (stc L)) (fun _ i _ => 20 - (intOf i).toNat)
  case atStart => exact ⟨0, 1, [x], _, by omega, by omega, rfl, rfl, rfl, rfl, KB2, O1'.out⟩
  case round =>
    obtain ⟨k, n1, L, x1, hk, hn1, rfl, rfl, hR, hL, hb, ho1⟩ := hrel
    by_cases hlt : k < n1
    · have hF := runS_facts hx k
      have hk2 : k < (runS x k).length := by rw [hR.out, hL.out]; exact hlt
      have hstep := runS_step hk2
      have hIF := inS_facts hk2 hF.2.1
      rw [hR.out] at hF hstep hIF
      have HS := Lib.hid hstep
      have HIF := Lib.hid hIF
      have Z1 := ho1.sl (by omega)
      obtain ⟨-, ao1, cap1, rfl, -⟩ := Z1
      clear hF hstep hIF hk2
      go_wp2
      go_loopw [3, 5] (fun u1 i wq => ∃ (j m1 : Nat) (L' : List Nat) (y1 : Value), 1 ≤ j ∧ j ≤ 10 ∧ m1 ≤ n1 + j ∧ k < m1 ∧ i = .int .i64 j ∧ y1 = u1 ∧ Hid (inS k L (j - 1) = L') ∧ Hid (L'.length = m1) ∧ Below WB.heap.size WB wq ∧ Out wq WB.heap.size 53 5 y1 m1 (stc L')) (fun _ i _ => 10 - (intOf i).toNat)
      case atStart => exact ⟨1, n1, L, _, by omega, by omega, by omega, hlt, rfl, rfl, rfl, hL, hb, ho1⟩
      case round =>
        clear hb ho1
        obtain ⟨j, m1, L', y1, hj1, hj, hm1, hkm, rfl, rfl, hI, hL', hbq, hp1⟩ := hrel
        by_cases hjn : j < 10
        · have hj9 : (j : Int) ≤ 9 := by omega
          have hif := HIF.out (j - 1) (by omega)
          rw [hI.out] at hif
          obtain ⟨-, -, hlow⟩ := hif
          obtain ⟨c, hc⟩ : ∃ c, nth L' k = c := ⟨_, rfl⟩
          have hc80 : c < 80 := by rw [← hc]; exact hlow k (by rw [hL'.out]; exact hkm)
          obtain ⟨g2, cap2, rfl, hg2, hr2⟩ := hp1.opened (by omega)
          obtain ⟨s0, s1, s2, s3, s4⟩ := stcells hr2 hkm hc
          simp only [Nat.zero_add] at s0 s1 s2 s3 s4
          cases ha : al c j
          · have HA := Lib.hid (fun w => s_l13Next_no c j w hc80 (by omega) ha)
            have HN := Lib.hid (show inS k L j = L' by rw [inS_no hj1 (by rw [hI.out, hc]; exact ha)]; exact hI.out)
            clear hlow hc hr2 ha
            go_wp2_with (first | (go_at_call 104; refine (HA.out _).mono ?_; rintro e' w3 ⟨rfl, hb3⟩))
            go_roundw
            case rel => exact ⟨j + 1, m1, L', _, by omega, by omega, by omega, by omega, by go_num, rfl, HN, hL', kept_alloc (kept_trans hbq hb3) _, hp1.kept (kept_alloc hb3 _)⟩
            case measure => simp [intOf]; omega
          · have HA := Lib.hid (fun w => s_l13Next_yes c j w hc80 (by omega) ha)
            obtain ⟨y, hy⟩ : ∃ y, nx c j = y := ⟨_, rfl⟩
            have hy80 : y < 80 := by rw [← hy]; exact nx_low hc80 (by omega)
            have hnext : inS k L j = putN L' y := by rw [inS_yes hj1 (by rw [hI.out, hc]; exact ha), hI.out, hc, hy]
            rw [hy] at HA
            have HX := Lib.hid (fun w v hs => s_l15Find v m1 y L' w hs hL'.out (by omega) hy80 (fun i hi => hlow i (by rw [hL'.out]; exact hi)))
            cases hh : hasN L' y
            · rw [put_no hh] at hnext
              rw [fi_hasnt hh] at HX
              have HN := Lib.hid hnext
              have HLl := Lib.hid (show (L' ++ [y]).length = m1 + 1 by simp [hL'.out])
              clear hnext hh hlow hc hy hr2 ha
              go_wp2_with (first | (go_at_call 104; refine (HA.out _).mono ?_; rintro e' w3 ⟨rfl, hb3⟩) | (go_at_call 92; refine (HX.out _ _ ((hp1.kept (kept_alloc hb3 _)).sl (by omega))).mono ?_; rintro e' w4 ⟨rfl, hb4⟩; have hk4 := kept_trans (kept_alloc hb3 _) hb4; have b0 := cell_keep hb4 (boxed_at (i := 0) rfl rfl); have b1 := cell_keep hb4 (boxed_at (i := 1) rfl rfl); have b2 := cell_keep hb4 (boxed_at (i := 2) rfl rfl); have b3 := cell_keep hb4 (boxed_at (i := 3) rfl rfl); have b4 := cell_keep hb4 (boxed_at (i := 4) rfl rfl); have hp1A := hp1.kept hk4; have hbA := kept_trans hbq hk4) | (at_builtin; refine wpList_append_own _ rfl _ _ 61 rfl _ 53 i0s _ 5 16 Try.underlying61 his hz0s hz1s hz2s rfl (by decide) _ _ _ rfl ((hp1A).row.alloc _) ⟨w4.heap.size, 0, none⟩ 1 1 _ (by rfl) (by rfl) (laid_at (by simp)) (by intro u hu; simp at hu; first | (rcases hu with rfl | rfl | rfl | rfl | rfl <;> rfl) | (rcases hu with rfl | rfl | rfl <;> rfl) | (rcases hu with rfl | rfl <;> rfl) | (subst hu; rfl)) (by simp only [maxLen]; omega) (by omega) (by have hbs := hbA.size; simp at hbs ⊢; omega) ?_; intro vs ws howns hgrows _))
              have R1 := out_st hL'.out howns
              have R4 := below_append hbA (Nat.le_refl _) hp1A.row hgrows
              clear hp1 hp1A howns hgrows hbA hbq b0 b1 b2 b3 b4
              try go_wp2
              go_roundw
              case rel => exact ⟨j + 1, m1 + 1, L' ++ [y], _, by omega, by omega, by omega, by omega, by go_num, rfl, HN, HLl, R4, R1⟩
              case measure => simp [intOf]; omega
            · obtain ⟨t, ht⟩ : ∃ t, idxN L' y = t := ⟨_, rfl⟩
              rw [put_yes hh] at hnext
              rw [fi_has hh, ht] at HX
              have HN := Lib.hid hnext
              clear hnext hh hlow hc hy hr2 ht ha
              go_wp2_with (first | (go_at_call 104; refine (HA.out _).mono ?_; rintro e' w3 ⟨rfl, hb3⟩) | (go_at_call 92; refine (HX.out _ _ ((hp1.kept (kept_alloc hb3 _)).sl (by omega))).mono ?_; rintro e' w4 ⟨rfl, hb4⟩; have hk4 := kept_trans (kept_alloc hb3 _) hb4))
              go_roundw
              case rel => exact ⟨j + 1, m1, L', _, by omega, by omega, by omega, by omega, by go_num, rfl, HN, hL', kept_trans hbq hk4, hp1.kept hk4⟩
              case measure => simp [intOf]; omega
        · obtain rfl : j = 10 := by omega
          have hend := HS.out
          have hI' : inS k L 9 = L' := hI.out
          rw [hI'] at hend
          have HEND := Lib.hid hend
          have hlen := runS_len hx (show k + 1 ≤ 20 by omega)
          rw [hend, hL'.out] at hlen
          clear hend hI'
          go_wp2
          go_roundw
          case rel => exact ⟨k + 1, m1, L', _, by omega, by omega, by go_num, rfl, HEND, hL', hbq, hp1⟩
          case measure => simp [intOf]; omega
    · have hend := runS_end hx hk (by rw [hR.out, hL.out]; omega)
      rw [hR.out] at hend
      have P1 : Hid (Out wr WB.heap.size 53 5 x1 (R x).length (stc (R x))) := by rw [← hend, hL.out]; exact ho1
      have Z1 := ho1.sl (by omega)
      obtain ⟨-, ao1, cap1, rfl, -⟩ := Z1
      clear hend ho1
      go_wp2
      go_ret
      exact ⟨.slice ao1 n1 cap1, rfl, kept_trans KB hb, P1.out.base_le KB.size⟩

def SMovesPost (x : Nat) (W : World) (en : Ending) (W' : World) : Prop := ∃ v1, en = .returned v1 ∧ Below W.heap.size W W' ∧ Out W' W.heap.size 77 3 v1 (M x).length (mvc (M x))

set_option maxHeartbeats 3200000 in
theorem s_l15Moves (x : Nat) (v : Value) (W : World) (hx : x < 80) (hs : Sl W v 5 (R x).length (stc (R x))) :
    Calls Try.prog 84 #[v] W (SMovesPost x W) := by
  obtain ⟨i0m, him, hz0m, hz1m, hz2m⟩ := info_parts infoMove
  obtain ⟨n, hn⟩ : ∃ n, (R x).length = n := ⟨_, rfl⟩
  have hn20 : n ≤ 20 := by rw [← hn]; exact (chk0_out hx).2.2.1
  have hn0 : 1 ≤ n := by rw [← hn]; exact R_pos hx
  have HLO := Lib.hid (R_low hx)
  have HHAS := Lib.hid (fun i k h1 h2 h3 => R_has (x := x) (i := i) (k := k) hx h1 h2 h3)
  have HM : Hid (mvS (R x) n = M x) := by rw [← hn]; rfl
  rw [hn] at hs
  have HL := Lib.hid hn
  clear hn
  have HML : Hid (M x = M x) := rfl
  have HFIN : Hid (∀ w v1, Out w W.heap.size 77 3 v1 (mvS (R x) n).length (mvc (mvS (R x) n)) → Out w W.heap.size 77 3 v1 (M x).length (mvc (M x))) := fun w v1 h => by rw [HM.out] at h; exact h
  unfold SMovesPost
  generalize R x = L at *
  generalize M x = MM at *
  obtain ⟨-, ao, cap, rfl, hr⟩ := hs
  rcases hr with h0 | ⟨g, off, rfl, hr⟩
  · omega
  have O1 : Hid (Out (W.alloc (.cells #[] 77)) W.heap.size 77 3 (.slice (some ⟨W.heap.size, 0, none⟩) 0 0) 0 (mvc [])) := Out.empty _ _ _ _ _ (Nat.le_refl _)
  have KB2 := kept_alloc (Below.refl W.heap.size W) (.cells #[] 77)
  have HR := Lib.hid hr
  clear hr
  go_enter Try.func84, Try.ntmps84
  go_wp2
  go_loopw [3, 4] (fun u1 i wr => ∃ (k n2 : Nat) (ms : List (Nat × Nat × Nat)) (x1 : Value), k ≤ n ∧ n2 ≤ 9 * k ∧ i = .int .i64 k ∧ x1 = u1 ∧ Hid (mvS L k = ms) ∧ Hid (ms.length = n2) ∧ Below W.heap.size W wr ∧ Out wr W.heap.size 77 3 x1 n2 (mvc ms)) (fun _ i _ => n - (intOf i).toNat)
  case atStart => exact ⟨0, 0, [], _, by omega, by omega, rfl, rfl, rfl, rfl, KB2, O1.out⟩
  case round =>
    obtain ⟨k, n2, ms, x1, hk, hn2, rfl, rfl, hMS, hMl, hb, ho1⟩ := hrel
    by_cases hlt : k < n
    · have Z1 := ho1.sl (by omega)
      obtain ⟨-, ao1, cap1, rfl, -⟩ := Z1
      obtain ⟨c, hc⟩ : ∃ c, nth L k = c := ⟨_, rfl⟩
      have hc80 : c < 80 := by rw [← hc]; exact HLO.out k (by rw [HL.out]; exact hlt)
      have HC1 := Lib.hid hc
      clear hc
      go_wp2
      go_loopw [3, 5] (fun u1 i wq => ∃ (j m1 : Nat) (ms' : List (Nat × Nat × Nat)) (y1 : Value), 1 ≤ j ∧ j ≤ 10 ∧ m1 < n2 + j ∧ i = .int .i64 j ∧ y1 = u1 ∧ Hid (mvS L k ++ mvI L k (j - 1) = ms') ∧ Hid (ms'.length = m1) ∧ Below W.heap.size W wq ∧ Out wq W.heap.size 77 3 y1 m1 (mvc ms')) (fun _ i _ => 10 - (intOf i).toNat)
      case atStart => exact ⟨1, n2, ms, _, by omega, by omega, by omega, rfl, rfl, by show mvS L k ++ [] = ms; rw [List.append_nil]; exact hMS.out, hMl, hb, ho1⟩
      case round =>
        clear hb ho1
        obtain ⟨j, m1, ms', y1, hj1, hj, hm1, rfl, rfl, hI, hL', hbq, hp1⟩ := hrel
        by_cases hjn : j < 10
        · have hj9 : (j : Int) ≤ 9 := by omega
          obtain ⟨s0, s1, s2, s3, s4⟩ := stcells (HR.out.kept hbq) hlt HC1.out
          cases ha : al c j
          · have HA := Lib.hid (fun w => s_l13Next_no c j w hc80 (by omega) ha)
            have HN := Lib.hid (show mvS L k ++ mvI L k j = ms' by rw [mvI_no hj1 (by rw [HC1.out]; exact ha)]; exact hI.out)
            clear ha
            go_wp2_with (first | (go_at_call 104; refine (HA.out _).mono ?_; rintro e' w3 ⟨rfl, hb3⟩))
            go_roundw
            case rel => exact ⟨j + 1, m1, ms', _, by omega, by omega, by omega, by go_num, rfl, HN, hL', kept_alloc (kept_trans hbq hb3) _, hp1.kept (kept_alloc hb3 _)⟩
            case measure => simp [intOf]; omega
          · have HA := Lib.hid (fun w => s_l13Next_yes c j w hc80 (by omega) ha)
            obtain ⟨y, hy⟩ : ∃ y, nx c j = y := ⟨_, rfl⟩
            have hy80 : y < 80 := by rw [← hy]; exact nx_low hc80 (by omega)
            rw [hy] at HA
            have hh := HHAS.out k j (by rw [HL.out]; exact hlt) (by omega) (by rw [HC1.out]; exact ha)
            rw [HC1.out, hy] at hh
            obtain ⟨t, ht⟩ : ∃ t, idxN L y = t := ⟨_, rfl⟩
            have hnext : mvS L k ++ mvI L k j = ms' ++ [(k, j, t)] := by
              rw [mvI_yes hj1 (by rw [HC1.out]; exact ha), ← List.append_assoc, hI.out, HC1.out, hy, ht]
            have HX := Lib.hid (fun w v hs => s_l15Find v n y L w hs HL.out (by omega) hy80 (fun i hi => HLO.out i (by rw [HL.out]; exact hi)))
            rw [fi_has hh, ht] at HX
            have htl : t < n := by rw [← ht, ← HL.out]; exact idx_lt hh
            have HN := Lib.hid hnext
            have HMl := Lib.hid (show (ms' ++ [(k, j, t)]).length = m1 + 1 by simp [hL'.out])
            clear hnext hh hy ht ha
            go_wp2_with (first | (go_at_call 104; refine (HA.out _).mono ?_; rintro e' w3 ⟨rfl, hb3⟩) | (go_at_call 92; refine (HX.out _ _ (Sl.of_row (by omega) ((HR.out.kept hbq).kept (kept_alloc hb3 _)))).mono ?_; rintro e' w4 ⟨rfl, hb4⟩; have hk4 := kept_trans (kept_alloc hb3 _) hb4; have hp1A := hp1.kept hk4; have hbA := kept_trans hbq hk4) | (at_builtin; refine wpList_append_own _ rfl _ _ 56 rfl _ 77 i0m _ 3 24 Try.underlying56 him hz0m hz1m hz2m rfl (by decide) _ _ _ rfl ((hp1A).row.alloc _) ⟨w4.heap.size, 0, none⟩ 1 1 _ (by rfl) (by rfl) (laid_at (by simp)) (by intro u hu; simp at hu; first | (rcases hu with rfl | rfl | rfl | rfl | rfl <;> rfl) | (rcases hu with rfl | rfl | rfl <;> rfl) | (rcases hu with rfl | rfl <;> rfl) | (subst hu; rfl)) (by simp only [maxLen]; omega) (by omega) (by have hbs := hbA.size; simp at hbs ⊢; omega) ?_; intro vm wm hownm hgrowm _))
            have R1 := out_mv hL'.out hownm
            have R4 := below_append hbA (Nat.le_refl _) hp1A.row hgrowm
            clear hp1 hp1A hownm hgrowm hbA hbq
            try go_wp2
            go_roundw
            case rel => exact ⟨j + 1, m1 + 1, ms' ++ [(k, j, t)], _, by omega, by omega, by omega, by go_num, rfl, HN, HMl, R4, R1⟩
            case measure => simp [intOf]; omega
        · obtain rfl : j = 10 := by omega
          have HEND := Lib.hid (show mvS L (k + 1) = ms' from hI.out)
          go_wp2
          go_roundw
          case rel => exact ⟨k + 1, m1, ms', _, by omega, by omega, by go_num, rfl, HEND, hL', hbq, hp1⟩
          case measure => simp [intOf]; omega
    · obtain rfl : k = n := by omega
      have P1 : Hid (Out wr W.heap.size 77 3 x1 (mvS L k).length (mvc (mvS L k))) := by rw [hMS.out, hMl.out]; exact ho1
      have P2 := Lib.hid (HFIN.out _ _ P1.out)
      have Z1 := ho1.sl (by omega)
      obtain ⟨-, ao1, cap1, rfl, -⟩ := Z1
      clear ho1
      go_wp2
      go_ret
      exact ⟨.slice ao1 n2 cap1, rfl, hb, P2.out⟩

end Go.Proofs.Ytkloolhngddpiaa
