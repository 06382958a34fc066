/- Waits: the reference's list of them. -/
import Derived.Test.YtobpeiimiglknaaWait
namespace Go.Proofs.Ytobpeiimiglknaa
open Go.RowKit Go.Deep
set_option linter.unusedVariables false
set_option maxRecDepth 100000

set_option maxHeartbeats 3200000 in
theorem s_l20Waits (v : Value) (n : Nat) (z : Nat → Int) (ev se T M : Nat) (C S : Nat → Nat) (wt cw : Nat → Int) (R : Int) (W : World) (hs : Sl W v 1 n (ic z)) (hn60 : n ≤ 60) (HZ : Hid (∀ i, i < n → 0 ≤ z i ∧ z i ≤ 1000)) (he1 : 1 ≤ ev) (he2 : ev ≤ 60) (hse1 : 1 ≤ se) (hse2 : se ≤ 1000)
    (HS : Hid (Serve n z ev se T M C S wt cw R)) (hT : T ≤ 6000000) (hM : M ≤ 1000000000) :
    Calls Try.prog 52 #[v, .int .i64 ev, .int .i64 se] W fun e W' => ∃ g, e = .returned g ∧ Below W.heap.size W W' ∧ Out W' W.heap.size 2 1 g T (ic wt) := by
  obtain ⟨i0, hi, hz0, hz1, hz2⟩ := info_parts infoInt
  obtain ⟨hn, ao, cap, rfl, hr⟩ := hs
  have C0 := Lib.hid HS.out.c0
  have S0 := Lib.hid HS.out.s0
  have hM0 : 0 < M := by have := HS.out.nM; omega
  have hnM := HS.out.nM
  go_enter Try.func52, Try.ntmps52
  go_wp2
  go_loopw [7, 8, 9] (fun x y m wr => ∃ (k : Nat) (xx yy : Value), k < M ∧ m = .int .i64 ((k : Int) + 1) ∧ xx = x ∧ yy = y ∧ Below W.heap.size W wr ∧ Hid (Apart xx yy) ∧ Out wr W.heap.size 2 1 xx (S k) (ic wt) ∧ Out wr W.heap.size 2 1 yy (C k) (ic cw)) (fun _ _ m _ => M + 1 - (intOf m).toNat)
  case atStart =>
    refine ⟨0, _, _, hM0, rfl, rfl, rfl, kept_alloc (kept_alloc (Below.refl _ _) _) _, fun b hb => ?_, ?_, ?_⟩
    · intro e; simp [Value.ownBlock] at hb e; omega
    · rw [S0.out]; exact (Out.empty _ _ _ _ _ (Nat.le_refl _)).kept (kept_alloc (Below.refl _ _) _)
    · rw [C0.out]
      have h := Out.empty (W.alloc (.cells #[] 2)) 2 1 (ic cw) W.heap.size (by simp)
      rw [show (W.alloc (.cells #[] 2)).heap.size = W.heap.size + 1 by simp] at h
      exact h
  case round =>
    clear C0 S0
    obtain ⟨k, xx, yy, hkM, rfl, rfl, rfl, hb, hap, hox, hoy⟩ := hrel
    obtain ⟨axo, axc, rfl⟩ := hox.form
    have sle := HS.out.sle k
    have cle := HS.out.cle k
    have cle1 := HS.out.cle (k + 1)
    have cup := HS.out.cup k
    have e1 : (1 : Int) ≤ (ev : Int) := by omega
    by_cases hkn : k < n
    · have hkM1 : k + 1 < M := by omega
      rcases hr with h0 | ⟨g, off, rfl, hr⟩
      · omega
      have hzk := HZ.out k hkn
      have hcin := HS.out.cin k hkn
      obtain ⟨zk, hzn⟩ : ∃ q : Nat, z k = (q : Int) := ⟨(z k).toNat, by omega⟩
      have HZN := Lib.hid hzn
      rw [hzn] at hcin hzk
      have hkn' : ((k : Int) + 1) ≤ (n : Int) := by omega
      have HRR := Lib.hid hr
      clear hr hzn
      go_wp2_with fail
      go_loopw [8, 10] (fun y i wq => ∃ (j : Nat) (yy : Value), j ≤ zk ∧ i = .int .i64 j ∧ yy = y ∧ Below W.heap.size W wq ∧ Hid (Apart (.slice axo (S k) axc) yy) ∧ Out wq W.heap.size 2 1 (.slice axo (S k) axc) (S k) (ic wt) ∧ Out wq W.heap.size 2 1 yy (C k + j) (ic cw)) (fun _ i _ => zk - (intOf i).toNat)
      case atStart => exact ⟨0, _, by omega, rfl, rfl, hb, hap, hox, hoy⟩
      case round =>
        clear hb hap hox hoy
        obtain ⟨j, yy, hj, rfl, rfl, hbq, hap, hox, hoy⟩ := hrel
        have hcell := (HRR.out.kept hbq).cell (i := k) (by omega)
        simp only [ic] at hcell
        rw [HZN.out] at hcell
        by_cases hjl : j < zk
        · have hcw := Lib.hid (HS.out.cwa k (C k + j) (by omega) (by omega) (by omega))
          have hjl' : ((j : Nat) : Int) < (zk : Int) := by omega
          go_wp2_with (at_builtin; refine wpList_append_own_at _ rfl _ _ 22 rfl _ 2 i0 _ 1 8 Try.underlying22 hi hz0 hz1 hz2 rfl (by decide) _ _ _ rfl ((hoy).row.alloc _) ⟨wr.heap.size, 0, none⟩ 1 1 _ (by rfl) (by rfl) (laid_at (by simp)) (by intro u hu; simp at hu; first | (rcases hu with rfl | rfl <;> rfl) | (subst hu; rfl)) (by simp only [maxLen]; omega) (by omega) (by have hbs := hbq.size; simp at hbs ⊢; omega) ?_; intro vA wA hownA hgrowA hnilA hatA)
          have R1 := Lib.hid (Out.snoc1 hownA (by simp only [ic]; rw [hcw.out]))
          have R2 := below_of_append hbq hoy.row hgrowA
          have R3 := Lib.hid (two_append hox hap.out.symm hgrowA hatA)
          clear hownA hgrowA hatA hnilA hox hoy hap hcell
          try go_wp2
          go_roundw
          case rel => exact ⟨j + 1, _, by omega, by go_num, rfl, R2, R3.out.2.symm, R3.out.1, R1.out⟩
          case measure => simp [intOf]; omega
        · obtain rfl : j = zk := by omega
          have hbY := hbq
          have apY := hap
          have oxY := hox
          have hck : C k + j = C (k + 1) := by omega
          rw [hck] at hoy
          have oyY := hoy
          clear hbq hap hox hoy
          by_cases hmod : (k + 1) % ev = 0
          · have hm : ((k : Int) + 1) % (ev : Int) = 0 := by rw [show (k : Int) + 1 = ((k + 1 : Nat) : Int) by omega, ← Int.natCast_emod, hmod]; rfl
            have HSR := Lib.hid (HS.out.sride k hmod)
            obtain ⟨ayo, ayc, rfl⟩ := oyY.form
            obtain ⟨D, hD⟩ : ∃ D, min se (C (k + 1) - S k) = D := ⟨_, rfl⟩
            rw [hD] at HSR
            go_wp2_with fail
            go_loopw [7, 11] (fun x i wq => ∃ (j : Nat) (xx : Value), j ≤ D ∧ i = .int .i64 j ∧ xx = x ∧ Below W.heap.size W wq ∧ Hid (Apart xx (.slice ayo (C (k + 1)) ayc)) ∧ Out wq W.heap.size 2 1 xx (S k + j) (ic wt) ∧ Out wq W.heap.size 2 1 (.slice ayo (C (k + 1)) ayc) (C (k + 1)) (ic cw)) (fun _ i _ => D - (intOf i).toNat)
            case atStart => exact ⟨0, _, by omega, rfl, rfl, hbY, apY, oxY, oyY⟩
            case round =>
              clear hbY apY oxY oyY hm
              obtain ⟨j, xx, hj, rfl, rfl, hbq, hap, hox, hoy⟩ := hrel
              obtain ⟨axo, axc, rfl⟩ := hox.form
              by_cases hjl : j < D
              · have hlt2 : S k + j < C (k + 1) := by omega
                obtain ⟨gy, cy, hyv, -, hrow⟩ := hoy.opened (by omega)
                have hcell := hrow.cell (i := S k + j) (by omega)
                simp only [ic, Nat.zero_add] at hcell
                have hwt := Lib.hid (HS.out.wta k (S k + j) (by omega) (by omega) (by rw [HSR.out]; omega))
                have hcb := HS.out.cwb (S k + j)
                have hln : ((S k + j : Nat) : Int) < ((C (k + 1) : Nat) : Int) := by omega
                have hjd : ((j : Nat) : Int) < (se : Int) := by omega
                have hyv' : ayo = some ⟨gy, 0, none⟩ ∧ ayc = cy := by simpa using hyv
                obtain ⟨rfl, rfl⟩ := hyv'
                clear hyv hrow hD
                go_wp2_with (at_builtin; refine wpList_append_own_at _ rfl _ _ 22 rfl _ 2 i0 _ 1 8 Try.underlying22 hi hz0 hz1 hz2 rfl (by decide) _ _ _ rfl ((hox).row.alloc _) ⟨wr.heap.size, 0, none⟩ 1 1 _ (by rfl) (by rfl) (laid_at (by simp)) (by intro u hu; simp at hu; first | (rcases hu with rfl | rfl <;> rfl) | (subst hu; rfl)) (by simp only [maxLen]; omega) (by omega) (by have hbs := hbq.size; simp at hbs ⊢; omega) ?_; intro vA wA hownA hgrowA hnilA hatA)
                have R1 := Lib.hid (Out.snoc1 hownA (by simp only [ic]; rw [hwt.out]))
                have R2 := below_of_append hbq hox.row hgrowA
                have R3 := Lib.hid (two_append hoy hap.out hgrowA hatA)
                clear hownA hgrowA hatA hnilA hox hoy hap
                try go_wp2
                go_roundw
                case rel => exact ⟨j + 1, _, by omega, by go_num, rfl, R2, R3.out.2, R1.out, R3.out.1⟩
                case measure => simp [intOf]; omega
              · obtain rfl : j = D := by omega
                rcases (show ((j : Nat) : Int) < (se : Int) ∨ (se : Int) ≤ ((j : Nat) : Int) by omega) with hjs | hjs
                · have hln : ((C (k + 1) : Nat) : Int) ≤ ((S k + j : Nat) : Int) := by omega
                  clear hD
                  go_wp2_with fail
                  go_roundw
                  case rel => exact ⟨k + 1, _, _, by omega, by go_num, rfl, rfl, hbq, hap, by rw [HSR.out]; exact hox, hoy⟩
                  case measure => simp [intOf]; omega
                · clear hD
                  go_wp2_with fail
                  go_roundw
                  case rel => exact ⟨k + 1, _, _, by omega, by go_num, rfl, rfl, hbq, hap, by rw [HSR.out]; exact hox, hoy⟩
                  case measure => simp [intOf]; omega
          · have hm : ¬ ((k : Int) + 1) % (ev : Int) = 0 := fun e => hmod (by rw [show (k : Int) + 1 = ((k + 1 : Nat) : Int) by omega, ← Int.natCast_emod] at e; omega)
            have HSR := Lib.hid (HS.out.snone k hmod)
            go_wp2_with fail
            go_roundw
            case rel => exact ⟨k + 1, _, _, by omega, by go_num, rfl, rfl, hbY, apY, by rw [HSR.out]; exact oxY, oyY⟩
            case measure => simp [intOf]; omega
    · have hck := HS.out.cout k (by omega)
      have hce := HS.out.cend k (by omega)
      have hkn' : (n : Int) < ((k : Int) + 1) := by omega
      obtain ⟨ayo, ayc, rfl⟩ := hoy.form
      by_cases hgo : S k < C k
      · have hkM1 := HS.out.bd k (by omega)
        have hgo' : ((S k : Nat) : Int) < ((C k : Nat) : Int) := by omega
        rw [← hck] at hoy
        have hbY := hb
        have apY := hap
        have oxY := hox
        have oyY := hoy
        clear hb hap hox hoy hr hce
        go_upto_region 11 with (fail)
        rw [← hck] at apY ⊢
        clear hck
        by_cases hmod : (k + 1) % ev = 0
        · have hm : ((k : Int) + 1) % (ev : Int) = 0 := by rw [show (k : Int) + 1 = ((k + 1 : Nat) : Int) by omega, ← Int.natCast_emod, hmod]; rfl
          have HSR := Lib.hid (HS.out.sride k hmod)
          obtain ⟨D, hD⟩ : ∃ D, min se (C (k + 1) - S k) = D := ⟨_, rfl⟩
          rw [hD] at HSR
          go_wp2_with fail
          go_loopw [7, 11] (fun x i wq => ∃ (j : Nat) (xx : Value), j ≤ D ∧ i = .int .i64 j ∧ xx = x ∧ Below W.heap.size W wq ∧ Hid (Apart xx (.slice ayo (C (k + 1)) ayc)) ∧ Out wq W.heap.size 2 1 xx (S k + j) (ic wt) ∧ Out wq W.heap.size 2 1 (.slice ayo (C (k + 1)) ayc) (C (k + 1)) (ic cw)) (fun _ i _ => D - (intOf i).toNat)
          case atStart => exact ⟨0, _, by omega, rfl, rfl, hbY, apY, oxY, oyY⟩
          case round =>
            clear hbY apY oxY oyY hm
            obtain ⟨j, xx, hj, rfl, rfl, hbq, hap, hox, hoy⟩ := hrel
            obtain ⟨axo, axc, rfl⟩ := hox.form
            by_cases hjl : j < D
            · have hlt2 : S k + j < C (k + 1) := by omega
              obtain ⟨gy, cy, hyv, -, hrow⟩ := hoy.opened (by omega)
              have hcell := hrow.cell (i := S k + j) (by omega)
              simp only [ic, Nat.zero_add] at hcell
              have hwt := Lib.hid (HS.out.wta k (S k + j) (by omega) (by omega) (by rw [HSR.out]; omega))
              have hcb := HS.out.cwb (S k + j)
              have hln : ((S k + j : Nat) : Int) < ((C (k + 1) : Nat) : Int) := by omega
              have hjd : ((j : Nat) : Int) < (se : Int) := by omega
              have hyv' : ayo = some ⟨gy, 0, none⟩ ∧ ayc = cy := by simpa using hyv
              obtain ⟨rfl, rfl⟩ := hyv'
              clear hyv hrow hD
              go_wp2_with (at_builtin; refine wpList_append_own_at _ rfl _ _ 22 rfl _ 2 i0 _ 1 8 Try.underlying22 hi hz0 hz1 hz2 rfl (by decide) _ _ _ rfl ((hox).row.alloc _) ⟨wr.heap.size, 0, none⟩ 1 1 _ (by rfl) (by rfl) (laid_at (by simp)) (by intro u hu; simp at hu; first | (rcases hu with rfl | rfl <;> rfl) | (subst hu; rfl)) (by simp only [maxLen]; omega) (by omega) (by have hbs := hbq.size; simp at hbs ⊢; omega) ?_; intro vA wA hownA hgrowA hnilA hatA)
              have R1 := Lib.hid (Out.snoc1 hownA (by simp only [ic]; rw [hwt.out]))
              have R2 := below_of_append hbq hox.row hgrowA
              have R3 := Lib.hid (two_append hoy hap.out hgrowA hatA)
              clear hownA hgrowA hatA hnilA hox hoy hap
              try go_wp2
              go_roundw
              case rel => exact ⟨j + 1, _, by omega, by go_num, rfl, R2, R3.out.2, R1.out, R3.out.1⟩
              case measure => simp [intOf]; omega
            · obtain rfl : j = D := by omega
              rcases (show ((j : Nat) : Int) < (se : Int) ∨ (se : Int) ≤ ((j : Nat) : Int) by omega) with hjs | hjs
              · have hln : ((C (k + 1) : Nat) : Int) ≤ ((S k + j : Nat) : Int) := by omega
                clear hD
                go_wp2_with fail
                go_roundw
                case rel => exact ⟨k + 1, _, _, by omega, by go_num, rfl, rfl, hbq, hap, by rw [HSR.out]; exact hox, hoy⟩
                case measure => simp [intOf]; omega
              · clear hD
                go_wp2_with fail
                go_roundw
                case rel => exact ⟨k + 1, _, _, by omega, by go_num, rfl, rfl, hbq, hap, by rw [HSR.out]; exact hox, hoy⟩
                case measure => simp [intOf]; omega
        · have hm : ¬ ((k : Int) + 1) % (ev : Int) = 0 := fun e => hmod (by rw [show (k : Int) + 1 = ((k + 1 : Nat) : Int) by omega, ← Int.natCast_emod] at e; omega)
          have HSR := Lib.hid (HS.out.snone k hmod)
          go_wp2_with fail
          go_roundw
          case rel => exact ⟨k + 1, _, _, by omega, by go_num, rfl, rfl, hbY, apY, by rw [HSR.out]; exact oxY, oyY⟩
          case measure => simp [intOf]; omega
      · have hST : S k = T := by omega
        have hgo' : ¬ ((S k : Nat) : Int) < ((C k : Nat) : Int) := by omega
        clear hr
        go_wp2_with fail
        go_ret
        exact ⟨_, rfl, hb, by have h := hox; rw [hST] at h; exact h⟩

end Go.Proofs.Ytobpeiimiglknaa
