/- Waits: the program's list of them. -/
import Derived.Test.YtobpeiimiglknaaServe
import Derived.Maps.AppendAt
import Derived.Deep.DeepCutAuto
namespace Go.Proofs.Ytobpeiimiglknaa
open Go.RowKit Go.Deep
set_option linter.unusedVariables false
set_option maxRecDepth 100000

def Apart (x y : Value) : Prop := ∀ b, x.ownBlock = some b → y.ownBlock ≠ some b
theorem Apart.symm {x y : Value} (h : Apart x y) : Apart y x := fun b hb hx => h b hx hb
theorem Out.form {w : World} {B k n : Nat} {e : TypeId} {v : Value} {f : Nat → Value} (h : Out w B e k v n f) : ∃ ao cap, v = .slice ao n cap := by
  rcases h.2 with ⟨h0, h1⟩ | ⟨gg, gcap, cur, h0, -⟩
  · exact ⟨_, _, by rw [h0, h1]⟩
  · exact ⟨_, _, h0⟩
theorem two_append {wr w1 : World} {o : Obj} {B k m : Nat} {e : TypeId} {v v' y : Value} {g : Nat → Value} (hy : Out wr B e k y m g) (hap : Apart v y) (hg : (wr.alloc o).grownBy w1 v.ownBlock) (hat : v'.ownBlock = v.ownBlock ∨ v'.ownBlock = some (wr.alloc o).heap.size) : Out w1 B e k y m g ∧ Apart v' y := by
  refine ⟨World.ownsRow.kept (hy.kept (kept_alloc (Below.refl _ _) o)) hg ?_, fun b hb hyb => ?_⟩
  · cases hyb : y.ownBlock with
    | none => exact .inl rfl
    | some b => exact .inr fun hv => hap b hv.symm hyb
  · rcases hat with h | h
    · exact hap b (h ▸ hb) hyb
    · rw [h] at hb
      have h1 := (hy.base b hyb).2
      simp at hb
      omega
theorem div_ride (k ev : Nat) (he : 1 ≤ ev) (h : (k + 1) % ev = 0) : (((k + 1) / ev : Nat) : Int) = ((k / ev : Nat) : Int) + 1 := by
  have h2 : (k + 1) / ev = k / ev + 1 := by rw [Nat.succ_div, if_pos (Nat.dvd_of_mod_eq_zero h)]
  rw [h2]; omega
theorem div_none (k ev : Nat) (he : 1 ≤ ev) (h : ¬ (k + 1) % ev = 0) : (((k + 1) / ev : Nat) : Int) = ((k / ev : Nat) : Int) := by
  have h2 : (k + 1) / ev = k / ev := by rw [Nat.succ_div, if_neg (fun hd => h (Nat.mod_eq_zero_of_dvd hd))]; rfl
  rw [h2]

set_option maxHeartbeats 3200000 in
theorem i_waits (v : Value) (n : Nat) (z : Nat → Int) (ev se T M : Nat) (C S : Nat → Nat) (wt cw : Nat → Int) (R : Int) (W : World) (hs : Sl W v 1 n (ic z)) (hn60 : n ≤ 60) (HZ : Hid (∀ i, i < n → 0 ≤ z i ∧ z i ≤ 1000)) (he1 : 1 ≤ ev) (he2 : ev ≤ 60) (hse1 : 1 ≤ se) (hse2 : se ≤ 1000)
    (HT : Hid (∀ w, Sl w v 1 n (ic z) → Calls Try.prog 55 #[v] w fun e W' => e = .returned (.int .i64 T) ∧ w = W')) (HS : Hid (Serve n z ev se T M C S wt cw R)) (hT : T ≤ 6000000) (hM : M ≤ 1000000000) :
    Calls Try.prog 49 #[v, .int .i64 ev, .int .i64 se] W fun e W' => ∃ g, e = .returned (.tuple #[g, .int .i64 R]) ∧ Below W.heap.size W W' ∧ Out W' W.heap.size 2 1 g T (ic wt) := by
  obtain ⟨i0, hi, hz0, hz1, hz2⟩ := info_parts infoInt
  have HSL := hs
  obtain ⟨hn, ao, cap, rfl, hr⟩ := hs
  have C0 := Lib.hid HS.out.c0
  have S0 := Lib.hid HS.out.s0
  have hM0 : 0 < M := by have := HS.out.nM; omega
  go_enter Try.func49, Try.ntmps49
  go_wp2
  go_loopw [8, 9, 10, 11] (fun y x r m wr => ∃ (k : Nat) (rr : Int) (yy xx : Value), k < M ∧ m = .int .i64 ((k : Int) + 1) ∧ yy = y ∧ xx = x ∧ r = .int .i64 rr ∧ Hid (rr = ((k / ev : Nat) : Int)) ∧ 0 ≤ rr ∧ rr ≤ k ∧ Hid (∀ j, j < k → S j < T) ∧ Below W.heap.size W wr ∧ Hid (Apart xx yy) ∧ Out wr W.heap.size 2 1 xx (S k) (ic wt) ∧ Out wr W.heap.size 2 1 yy (C k) (ic cw)) (fun _ _ _ m _ => M + 1 - (intOf m).toNat)
  case atStart =>
    refine ⟨0, 0, _, _, hM0, rfl, rfl, rfl, rfl, by show (0 : Int) = ((0 / ev : Nat) : Int); simp, by omega, by omega, fun j hj => by omega, Below.refl _ _, fun b hb => by simp [Value.ownBlock] at hb, ?_, ?_⟩
    · rw [S0.out]; exact Out.nil _ _ _ _ _
    · rw [C0.out]; exact Out.nil _ _ _ _ _
  case round =>
    clear C0 S0
    obtain ⟨k, rr, yy, xx, hkM, rfl, rfl, rfl, rfl, hrr, rr0, rr1, hno, hb, hap, hox, hoy⟩ := hrel
    obtain ⟨axo, axc, rfl⟩ := hox.form
    have HSK := HSL.kept hb
    have sle := HS.out.sle k
    have cle := HS.out.cle k
    have cle1 := HS.out.cle (k + 1)
    have cup := HS.out.cup k
    have kdv := Nat.div_le_self k ev
    have e1 : (1 : Int) ≤ (ev : Int) := by omega
    by_cases hgo : S k < T
    · have hgo' : ((S k : Nat) : Int) < (T : Int) := by omega
      have hkM1 := HS.out.bd k hgo
      have HNO : Hid (∀ j, j < k + 1 → S j < T) := fun j hj => by
        by_cases e : j = k
        · rw [e]; exact hgo
        · exact hno.out j (by omega)
      clear hno
      by_cases hkn : k < n
      · rcases hr with h0 | ⟨g, off, rfl, hr⟩
        · omega
        have hzk := HZ.out k hkn
        have hcell := (hr.kept hb).cell (i := k) (by omega)
        simp only [ic] at hcell
        have hcin := HS.out.cin k hkn
        obtain ⟨zk, hzn⟩ : ∃ q : Nat, z k = (q : Int) := ⟨(z k).toNat, by omega⟩
        rw [hzn] at hcell hcin hzk
        have hkn' : ((k : Int) + 1) ≤ (n : Int) := by omega
        clear hr hzn
        go_wp2_with (first | (go_at_call 54; refine (i_size_int _ _ _ _ ?_).mono ?_; (omega); rintro e w' ⟨rfl, rfl⟩) | (go_at_call 55; refine (HT.out _ HSK).mono ?_; rintro e w' ⟨rfl, rfl⟩))
        go_loopw [8, 28] (fun y i wq => ∃ (j : Nat) (yy : Value), j ≤ zk ∧ i = .int .i64 j ∧ yy = y ∧ Below W.heap.size W wq ∧ Hid (Apart (.slice axo (S k) axc) yy) ∧ Out wq W.heap.size 2 1 (.slice axo (S k) axc) (S k) (ic wt) ∧ Out wq W.heap.size 2 1 yy (C k + j) (ic cw)) (fun _ i _ => zk - (intOf i).toNat)
        case atStart => exact ⟨0, _, by omega, rfl, rfl, hb, hap, hox, hoy⟩
        case round =>
          clear hb hap hox hoy
          obtain ⟨j, yy, hj, rfl, rfl, hbq, hap, hox, hoy⟩ := hrel
          by_cases hjl : j < zk
          · have hcw := Lib.hid (HS.out.cwa k (C k + j) (by omega) (by omega) (by omega))
            have hjl' : ((j : Nat) : Int) < (zk : Int) := by omega
            go_wp2_with (at_builtin; refine wpList_append_own_at _ rfl _ _ 22 rfl _ 2 i0 _ 1 8 Try.underlying22 hi hz0 hz1 hz2 rfl (by decide) _ _ _ rfl ((hoy).row.alloc _) ⟨wr.heap.size, 0, none⟩ 1 1 _ (by rfl) (by rfl) (laid_at (by simp)) (by intro u hu; simp at hu; first | (rcases hu with rfl | rfl <;> rfl) | (subst hu; rfl)) (by simp only [maxLen]; omega) (by omega) (by have hbs := hbq.size; simp at hbs ⊢; omega) ?_; intro vA wA hownA hgrowA hnilA hatA)
            have R1 := Lib.hid (Out.snoc1 hownA (by simp only [ic]; rw [hcw.out]))
            have R2 := below_of_append hbq hoy.row hgrowA
            have R3 := Lib.hid (two_append hox hap.out.symm hgrowA hatA)
            clear hownA hgrowA hatA hnilA hox hoy hap
            try go_wp2
            go_roundw
            case rel => exact ⟨j + 1, _, by omega, by go_num, rfl, R2, R3.out.2.symm, R3.out.1, R1.out⟩
            case measure => simp [intOf]; omega
          · obtain rfl : j = zk := by omega
            have hbY := hbq
            have apY := hap
            have oxY := hox
            have hck : C k + j = C (k + 1) := by omega
            rw [hck] at hoy
            have oyY := hoy
            clear hbq hap hox hoy
            by_cases hmod : (k + 1) % ev = 0
            · have hm : ((k : Int) + 1) % (ev : Int) = 0 := by rw [show (k : Int) + 1 = ((k + 1 : Nat) : Int) by omega, ← Int.natCast_emod, hmod]; rfl
              have HSR := Lib.hid (HS.out.sride k hmod)
              have HRD := Lib.hid (div_ride k ev he1 hmod)
              obtain ⟨ayo, ayc, rfl⟩ := oyY.form
              obtain ⟨D, hD⟩ : ∃ D, min se (C (k + 1) - S k) = D := ⟨_, rfl⟩
              rw [hD] at HSR
              rcases (show (se : Int) ≤ (C (k + 1) : Int) - (S k : Int) ∨ (C (k + 1) : Int) - (S k : Int) < (se : Int) by omega) with hlim | hlim
              · have hDD : D = se := by omega
                clear hD
                go_wp2_with (go_at_call 54; refine (i_size_int _ _ _ _ ?_).mono ?_; (omega); rintro e w' ⟨rfl, rfl⟩)
                go_loopw [9, 48] (fun x i wq => ∃ (j : Nat) (xx : Value), j ≤ D ∧ i = .int .i64 j ∧ xx = x ∧ Below W.heap.size W wq ∧ Hid (Apart xx (.slice ayo (C (k + 1)) ayc)) ∧ Out wq W.heap.size 2 1 xx (S k + j) (ic wt) ∧ Out wq W.heap.size 2 1 (.slice ayo (C (k + 1)) ayc) (C (k + 1)) (ic cw)) (fun _ i _ => D - (intOf i).toNat)
                case atStart => exact ⟨0, _, by omega, rfl, rfl, hbY, apY, oxY, oyY⟩
                case round =>
                  obtain ⟨j, xx, hj, rfl, rfl, hbq, hap, hox, hoy⟩ := hrel
                  by_cases hjl : j < D
                  · obtain ⟨axo, axc, rfl⟩ := hox.form
                    have hlt2 : S k + j < C (k + 1) := by omega
                    obtain ⟨gy, cy, hyv, -, hrow⟩ := hoy.opened (by omega)
                    have hcell := hrow.cell (i := S k + j) (by omega)
                    simp only [ic, Nat.zero_add] at hcell
                    have hwt := Lib.hid (HS.out.wta k (S k + j) (by omega) (by omega) (by rw [HSR.out]; omega))
                    have hcb := HS.out.cwb (S k + j)
                    have hln : ((S k + j : Nat) : Int) < ((C (k + 1) : Nat) : Int) := by omega
                    have hjd : ((j : Nat) : Int) < (se : Int) := by omega
                    clear hrow
                    have hyv' : ayo = some ⟨gy, 0, none⟩ ∧ ayc = cy := by simpa using hyv
                    obtain ⟨rfl, rfl⟩ := hyv'
                    clear hyv
                    go_wp2_with (at_builtin; refine wpList_append_own_at _ rfl _ _ 22 rfl _ 2 i0 _ 1 8 Try.underlying22 hi hz0 hz1 hz2 rfl (by decide) _ _ _ rfl ((hox).row.alloc _) ⟨wr.heap.size, 0, none⟩ 1 1 _ (by rfl) (by rfl) (laid_at (by simp)) (by intro u hu; simp at hu; first | (rcases hu with rfl | rfl <;> rfl) | (subst hu; rfl)) (by simp only [maxLen]; omega) (by omega) (by have hbs := hbq.size; simp at hbs ⊢; omega) ?_; intro vA wA hownA hgrowA hnilA hatA)
                    have R1 := Lib.hid (Out.snoc1 hownA (by simp only [ic]; rw [hwt.out]))
                    have R2 := below_of_append hbq hox.row hgrowA
                    have R3 := Lib.hid (two_append hoy hap.out hgrowA hatA)
                    clear hownA hgrowA hatA hnilA hox hoy hap
                    try go_wp2
                    go_roundw
                    case rel => exact ⟨j + 1, _, by omega, by go_num, rfl, R2, R3.out.2, R1.out, R3.out.1⟩
                    case measure => simp [intOf]; omega
                  · obtain rfl : j = D := by omega
                    have hjd : ¬ (((j : Nat) : Int) < (se : Int)) := by omega
                    go_wp2_with fail
                    go_roundw
                    case rel => exact ⟨k + 1, rr + 1, _, _, by omega, by go_num, rfl, rfl, rfl, by show rr + 1 = _; rw [HRD.out, hrr.out], by omega, by omega, HNO, hbq, hap, by rw [HSR.out]; exact hox, hoy⟩
                    case measure => simp [intOf]; omega
              · have hDD : D = C (k + 1) - S k := by omega
                clear hD
                go_wp2_with (go_at_call 54; refine (i_size_int _ _ _ _ ?_).mono ?_; (omega); rintro e w' ⟨rfl, rfl⟩)
                go_loopw [9, 48] (fun x i wq => ∃ (j : Nat) (xx : Value), j ≤ D ∧ i = .int .i64 j ∧ xx = x ∧ Below W.heap.size W wq ∧ Hid (Apart xx (.slice ayo (C (k + 1)) ayc)) ∧ Out wq W.heap.size 2 1 xx (S k + j) (ic wt) ∧ Out wq W.heap.size 2 1 (.slice ayo (C (k + 1)) ayc) (C (k + 1)) (ic cw)) (fun _ i _ => D - (intOf i).toNat)
                case atStart => exact ⟨0, _, by omega, rfl, rfl, hbY, apY, oxY, oyY⟩
                case round =>
                  obtain ⟨j, xx, hj, rfl, rfl, hbq, hap, hox, hoy⟩ := hrel
                  by_cases hjl : j < D
                  · obtain ⟨axo, axc, rfl⟩ := hox.form
                    have hlt2 : S k + j < C (k + 1) := by omega
                    obtain ⟨gy, cy, hyv, -, hrow⟩ := hoy.opened (by omega)
                    have hcell := hrow.cell (i := S k + j) (by omega)
                    simp only [ic, Nat.zero_add] at hcell
                    have hwt := Lib.hid (HS.out.wta k (S k + j) (by omega) (by omega) (by rw [HSR.out]; omega))
                    have hcb := HS.out.cwb (S k + j)
                    have hln : ((S k + j : Nat) : Int) < ((C (k + 1) : Nat) : Int) := by omega
                    have hjd : ((j : Nat) : Int) < (C (k + 1) : Int) - (S k : Int) := by omega
                    clear hrow
                    have hyv' : ayo = some ⟨gy, 0, none⟩ ∧ ayc = cy := by simpa using hyv
                    obtain ⟨rfl, rfl⟩ := hyv'
                    clear hyv
                    go_wp2_with (at_builtin; refine wpList_append_own_at _ rfl _ _ 22 rfl _ 2 i0 _ 1 8 Try.underlying22 hi hz0 hz1 hz2 rfl (by decide) _ _ _ rfl ((hox).row.alloc _) ⟨wr.heap.size, 0, none⟩ 1 1 _ (by rfl) (by rfl) (laid_at (by simp)) (by intro u hu; simp at hu; first | (rcases hu with rfl | rfl <;> rfl) | (subst hu; rfl)) (by simp only [maxLen]; omega) (by omega) (by have hbs := hbq.size; simp at hbs ⊢; omega) ?_; intro vA wA hownA hgrowA hnilA hatA)
                    have R1 := Lib.hid (Out.snoc1 hownA (by simp only [ic]; rw [hwt.out]))
                    have R2 := below_of_append hbq hox.row hgrowA
                    have R3 := Lib.hid (two_append hoy hap.out hgrowA hatA)
                    clear hownA hgrowA hatA hnilA hox hoy hap
                    try go_wp2
                    go_roundw
                    case rel => exact ⟨j + 1, _, by omega, by go_num, rfl, R2, R3.out.2, R1.out, R3.out.1⟩
                    case measure => simp [intOf]; omega
                  · obtain rfl : j = D := by omega
                    have hjd : ¬ (((j : Nat) : Int) < (C (k + 1) : Int) - (S k : Int)) := by omega
                    go_wp2_with fail
                    go_roundw
                    case rel => exact ⟨k + 1, rr + 1, _, _, by omega, by go_num, rfl, rfl, rfl, by show rr + 1 = _; rw [HRD.out, hrr.out], by omega, by omega, HNO, hbq, hap, by rw [HSR.out]; exact hox, hoy⟩
                    case measure => simp [intOf]; omega
            · have hm : ¬ ((k : Int) + 1) % (ev : Int) = 0 := fun e => hmod (by rw [show (k : Int) + 1 = ((k + 1 : Nat) : Int) by omega, ← Int.natCast_emod] at e; omega)
              have HSR := Lib.hid (HS.out.snone k hmod)
              have HRD := Lib.hid (div_none k ev he1 hmod)
              go_wp2_with fail
              go_roundw
              case rel => exact ⟨k + 1, rr, _, _, by omega, by go_num, rfl, rfl, rfl, by show rr = _; rw [HRD.out, hrr.out], by omega, by omega, HNO, hbY, apY, by rw [HSR.out]; exact oxY, oyY⟩
              case measure => simp [intOf]; omega
      · have hkn' : (n : Int) < ((k : Int) + 1) := by omega
        have hck := HS.out.cout k (by omega)
        rw [← hck] at hoy
        have hbY := hb
        have apY := hap
        have oxY := hox
        have oyY := hoy
        clear hb hap hox hoy hr hck
        go_upto_region 11 with (first | (go_at_call 54; refine (i_size_int _ _ _ _ ?_).mono ?_; (omega); rintro e w' ⟨rfl, rfl⟩) | (go_at_call 55; refine (HT.out _ HSK).mono ?_; rintro e w' ⟨rfl, rfl⟩))
        by_cases hmod : (k + 1) % ev = 0
        · have hm : ((k : Int) + 1) % (ev : Int) = 0 := by rw [show (k : Int) + 1 = ((k + 1 : Nat) : Int) by omega, ← Int.natCast_emod, hmod]; rfl
          have HSR := Lib.hid (HS.out.sride k hmod)
          have HRD := Lib.hid (div_ride k ev he1 hmod)
          obtain ⟨ayo, ayc, rfl⟩ := oyY.form
          obtain ⟨D, hD⟩ : ∃ D, min se (C (k + 1) - S k) = D := ⟨_, rfl⟩
          rw [hD] at HSR
          rcases (show (se : Int) ≤ (C (k + 1) : Int) - (S k : Int) ∨ (C (k + 1) : Int) - (S k : Int) < (se : Int) by omega) with hlim | hlim
          · have hDD : D = se := by omega
            clear hD
            go_wp2_with (go_at_call 54; refine (i_size_int _ _ _ _ ?_).mono ?_; (omega); rintro e w' ⟨rfl, rfl⟩)
            go_loopw [9, 48] (fun x i wq => ∃ (j : Nat) (xx : Value), j ≤ D ∧ i = .int .i64 j ∧ xx = x ∧ Below W.heap.size W wq ∧ Hid (Apart xx (.slice ayo (C (k + 1)) ayc)) ∧ Out wq W.heap.size 2 1 xx (S k + j) (ic wt) ∧ Out wq W.heap.size 2 1 (.slice ayo (C (k + 1)) ayc) (C (k + 1)) (ic cw)) (fun _ i _ => D - (intOf i).toNat)
            case atStart => exact ⟨0, _, by omega, rfl, rfl, hbY, apY, oxY, oyY⟩
            case round =>
              obtain ⟨j, xx, hj, rfl, rfl, hbq, hap, hox, hoy⟩ := hrel
              by_cases hjl : j < D
              · obtain ⟨axo, axc, rfl⟩ := hox.form
                have hlt2 : S k + j < C (k + 1) := by omega
                obtain ⟨gy, cy, hyv, -, hrow⟩ := hoy.opened (by omega)
                have hcell := hrow.cell (i := S k + j) (by omega)
                simp only [ic, Nat.zero_add] at hcell
                have hwt := Lib.hid (HS.out.wta k (S k + j) (by omega) (by omega) (by rw [HSR.out]; omega))
                have hcb := HS.out.cwb (S k + j)
                have hln : ((S k + j : Nat) : Int) < ((C (k + 1) : Nat) : Int) := by omega
                have hjd : ((j : Nat) : Int) < (se : Int) := by omega
                clear hrow
                have hyv' : ayo = some ⟨gy, 0, none⟩ ∧ ayc = cy := by simpa using hyv
                obtain ⟨rfl, rfl⟩ := hyv'
                clear hyv
                go_wp2_with (at_builtin; refine wpList_append_own_at _ rfl _ _ 22 rfl _ 2 i0 _ 1 8 Try.underlying22 hi hz0 hz1 hz2 rfl (by decide) _ _ _ rfl ((hox).row.alloc _) ⟨wr.heap.size, 0, none⟩ 1 1 _ (by rfl) (by rfl) (laid_at (by simp)) (by intro u hu; simp at hu; first | (rcases hu with rfl | rfl <;> rfl) | (subst hu; rfl)) (by simp only [maxLen]; omega) (by omega) (by have hbs := hbq.size; simp at hbs ⊢; omega) ?_; intro vA wA hownA hgrowA hnilA hatA)
                have R1 := Lib.hid (Out.snoc1 hownA (by simp only [ic]; rw [hwt.out]))
                have R2 := below_of_append hbq hox.row hgrowA
                have R3 := Lib.hid (two_append hoy hap.out hgrowA hatA)
                clear hownA hgrowA hatA hnilA hox hoy hap
                try go_wp2
                go_roundw
                case rel => exact ⟨j + 1, _, by omega, by go_num, rfl, R2, R3.out.2, R1.out, R3.out.1⟩
                case measure => simp [intOf]; omega
              · obtain rfl : j = D := by omega
                have hjd : ¬ (((j : Nat) : Int) < (se : Int)) := by omega
                go_wp2_with fail
                go_roundw
                case rel => exact ⟨k + 1, rr + 1, _, _, by omega, by go_num, rfl, rfl, rfl, by show rr + 1 = _; rw [HRD.out, hrr.out], by omega, by omega, HNO, hbq, hap, by rw [HSR.out]; exact hox, hoy⟩
                case measure => simp [intOf]; omega
          · have hDD : D = C (k + 1) - S k := by omega
            clear hD
            go_wp2_with (go_at_call 54; refine (i_size_int _ _ _ _ ?_).mono ?_; (omega); rintro e w' ⟨rfl, rfl⟩)
            go_loopw [9, 48] (fun x i wq => ∃ (j : Nat) (xx : Value), j ≤ D ∧ i = .int .i64 j ∧ xx = x ∧ Below W.heap.size W wq ∧ Hid (Apart xx (.slice ayo (C (k + 1)) ayc)) ∧ Out wq W.heap.size 2 1 xx (S k + j) (ic wt) ∧ Out wq W.heap.size 2 1 (.slice ayo (C (k + 1)) ayc) (C (k + 1)) (ic cw)) (fun _ i _ => D - (intOf i).toNat)
            case atStart => exact ⟨0, _, by omega, rfl, rfl, hbY, apY, oxY, oyY⟩
            case round =>
              obtain ⟨j, xx, hj, rfl, rfl, hbq, hap, hox, hoy⟩ := hrel
              by_cases hjl : j < D
              · obtain ⟨axo, axc, rfl⟩ := hox.form
                have hlt2 : S k + j < C (k + 1) := by omega
                obtain ⟨gy, cy, hyv, -, hrow⟩ := hoy.opened (by omega)
                have hcell := hrow.cell (i := S k + j) (by omega)
                simp only [ic, Nat.zero_add] at hcell
                have hwt := Lib.hid (HS.out.wta k (S k + j) (by omega) (by omega) (by rw [HSR.out]; omega))
                have hcb := HS.out.cwb (S k + j)
                have hln : ((S k + j : Nat) : Int) < ((C (k + 1) : Nat) : Int) := by omega
                have hjd : ((j : Nat) : Int) < (C (k + 1) : Int) - (S k : Int) := by omega
                clear hrow
                have hyv' : ayo = some ⟨gy, 0, none⟩ ∧ ayc = cy := by simpa using hyv
                obtain ⟨rfl, rfl⟩ := hyv'
                clear hyv
                go_wp2_with (at_builtin; refine wpList_append_own_at _ rfl _ _ 22 rfl _ 2 i0 _ 1 8 Try.underlying22 hi hz0 hz1 hz2 rfl (by decide) _ _ _ rfl ((hox).row.alloc _) ⟨wr.heap.size, 0, none⟩ 1 1 _ (by rfl) (by rfl) (laid_at (by simp)) (by intro u hu; simp at hu; first | (rcases hu with rfl | rfl <;> rfl) | (subst hu; rfl)) (by simp only [maxLen]; omega) (by omega) (by have hbs := hbq.size; simp at hbs ⊢; omega) ?_; intro vA wA hownA hgrowA hnilA hatA)
                have R1 := Lib.hid (Out.snoc1 hownA (by simp only [ic]; rw [hwt.out]))
                have R2 := below_of_append hbq hox.row hgrowA
                have R3 := Lib.hid (two_append hoy hap.out hgrowA hatA)
                clear hownA hgrowA hatA hnilA hox hoy hap
                try go_wp2
                go_roundw
                case rel => exact ⟨j + 1, _, by omega, by go_num, rfl, R2, R3.out.2, R1.out, R3.out.1⟩
                case measure => simp [intOf]; omega
              · obtain rfl : j = D := by omega
                have hjd : ¬ (((j : Nat) : Int) < (C (k + 1) : Int) - (S k : Int)) := by omega
                go_wp2_with fail
                go_roundw
                case rel => exact ⟨k + 1, rr + 1, _, _, by omega, by go_num, rfl, rfl, rfl, by show rr + 1 = _; rw [HRD.out, hrr.out], by omega, by omega, HNO, hbq, hap, by rw [HSR.out]; exact hox, hoy⟩
                case measure => simp [intOf]; omega
        · have hm : ¬ ((k : Int) + 1) % (ev : Int) = 0 := fun e => hmod (by rw [show (k : Int) + 1 = ((k + 1 : Nat) : Int) by omega, ← Int.natCast_emod] at e; omega)
          have HSR := Lib.hid (HS.out.snone k hmod)
          have HRD := Lib.hid (div_none k ev he1 hmod)
          go_wp2_with fail
          go_roundw
          case rel => exact ⟨k + 1, rr, _, _, by omega, by go_num, rfl, rfl, rfl, by show rr = _; rw [HRD.out, hrr.out], by omega, by omega, HNO, hbY, apY, by rw [HSR.out]; exact oxY, oyY⟩
          case measure => simp [intOf]; omega
    · have hgo' : ¬ ((S k : Nat) : Int) < (T : Int) := by omega
      have hST : S k = T := by omega
      have HR := Lib.hid (HS.out.fin k hno.out (by omega))
      clear hr
      go_wp2_with (first | (go_at_call 54; refine (i_size_int _ _ _ _ ?_).mono ?_; (omega); rintro e w' ⟨rfl, rfl⟩) | (go_at_call 55; refine (HT.out _ HSK).mono ?_; rintro e w' ⟨rfl, rfl⟩))
      refine bodyPost_ret (results_tmp2 rfl _ _ _) rfl ⟨_, by rw [HR.out, ← hrr.out]; rfl, hb, by have h := hox; rw [hST] at h; exact h⟩

end Go.Proofs.Ytobpeiimiglknaa
