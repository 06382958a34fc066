/- The least room: the program. -/
import Derived.Test.YtfnollbeeehpnaaRoomS
import Derived.Test.YtfnollbeeehpnaaGLawR
namespace Go.Proofs.Ytfnollbeeehpnaa
open Go.RowKit Go.Deep
set_option linter.unusedVariables false
set_option maxRecDepth 100000

set_option maxHeartbeats 3200000 in
theorem i_LeastRoom (v : Value) (n : Nat) (a : Nat → ByteArray) (b c d : Nat → Int) (W : World) (hs : Sl W v 4 n (gc a b c d)) (hx : Hid (∀ i, i < n → ((a i).size : Int) ≤ 1048576)) :
    Calls Try.prog 21 #[v] W fun e W' => e = .returned (lrV (lrC (vGroups n a b c d) (sumI b n) (sumI c n) (sumI (kgOf b c d) n)) (sumI b n) (sumI c n) (sumI (kgOf b c d) n)) ∧ Below W.heap.size W W' := by
  have KA := kept_alloc (Below.refl W.heap.size W) (.cells #[.int .i64 0, .int .i64 0, .int .i64 0] 30)
  have HSA := hs.kept KA
  have RA : RoomAt (W.alloc (.cells #[.int .i64 0, .int .i64 0, .int .i64 0] 30)) W.heap.size 0 0 0 := RoomAt.new rfl
  have HV := Lib.hid (fun w h => i_listGroup v n a b c d w h hx)
  cases hv : vGroups n a b c d
  · rw [hv] at HV
    rw [lrC_bad]
    obtain ⟨hl, z0, z1, z2, hf⟩ := RA
    obtain ⟨-, ao, cap, rfl, -⟩ := hs
    have F0 := hf 0
    have F1 := hf 1
    have F2 := hf 2
    clear hf
    go_enter Try.func21, Try.ntmps21
    go_wp2_with (go_at_call 18; refine (HV.out _ HSA).mono ?_; rintro e w1 ⟨rfl, hb1⟩; have z0 := cell_keep hb1 z0; have z1 := cell_keep hb1 z1; have z2 := cell_keep hb1 z2; have F0 := free_keep' hb1 hl F0; have F1 := free_keep' hb1 hl F1; have F2 := free_keep' hb1 hl F2)
    obtain ⟨y0, y1, y2⟩ := set3_at (v0 := .int .i64 0) (v1 := .int .i64 0) (v2 := .int .i64 0) z0 z1 z2
    refine bodyPost_ret (v := .tuple #[.agg #[.int .i64 0, .int .i64 0, .int .i64 0], .int .i64 1]) (by simp [results, go_sem, y0, y1, y2]) rfl ⟨rfl, kept_set (kept_set (kept_set (kept_trans KA hb1) (by simp) _) (by simp) _) (by simp) _⟩
  · rw [hv] at HV
    obtain ⟨hn12, hvi⟩ := vGroups_out hv
    have HB : Hid (∀ i, i < n → (1 ≤ b i ∧ b i ≤ 200) ∧ (0 ≤ c i ∧ c i ≤ 40) ∧ (0 ≤ d i ∧ d i ≤ 100000)) := fun i hi => (vGr_out (hvi i hi)).2
    have SP : Hid (∀ k, k ≤ n → 0 ≤ sumI b k ∧ sumI b k ≤ k * 200) := sumI_bd fun i hi => by have := HB.out i hi; omega
    have SB : Hid (∀ k, k ≤ n → 0 ≤ sumI c k ∧ sumI c k ≤ k * 40) := sumI_bd fun i hi => by have := HB.out i hi; omega
    have SK : Hid (∀ k, k ≤ n → 0 ≤ sumI (kgOf b c d) k ∧ sumI (kgOf b c d) k ≤ k * 115600) := sumI_bd fun i hi => by have := HB.out i hi; unfold kgOf; omega
    have N1 : Hid (∀ k, sumI b (k + 1) = sumI b k + b k) := fun _ => rfl
    have N2 : Hid (∀ k, sumI c (k + 1) = sumI c k + c k) := fun _ => rfl
    have N3 : Hid (∀ k, sumI (kgOf b c d) (k + 1) = sumI (kgOf b c d) k + (75 * b k + 15 * c k + d k)) := fun _ => rfl
    have Z1 : sumI b 0 = 0 := rfl
    have Z2 : sumI c 0 = 0 := rfl
    have Z3 : sumI (kgOf b c d) 0 = 0 := rfl
    clear hvi hv
    generalize sumI b = sp at *
    generalize sumI c = sb at *
    generalize sumI (kgOf b c d) = sk at *
    obtain ⟨hn, ao, cap, rfl, hr⟩ := hs
    go_enter Try.func21, Try.ntmps21
    go_wp2_with (go_at_call 18; refine (HV.out _ HSA).mono ?_; rintro e w1 ⟨rfl, hb1⟩)
    have HSA1 := (HSA.kept hb1)
    clear HSA HV
    go_loopw [13] (fun i wr => ∃ k : Nat, k ≤ n ∧ i = .int .i64 k ∧ Below w1.heap.size w1 wr ∧ RoomAt wr w1.heap.size (sp k) (sb k) (sk k)) (fun i _ => n - (intOf i).toNat)
    case atStart =>
      refine ⟨0, by omega, rfl, kept_alloc (Below.refl _ _) _, ?_⟩
      rw [Z1, Z2, Z3]
      exact RoomAt.new rfl
    case round =>
      obtain ⟨k, hk, rfl, hb, hq⟩ := hrel
      by_cases hlt : k < n
      · have hsk := HSA1.kept hb
        rcases hr with h0 | ⟨g, off, rfl, hr⟩
        · omega
        obtain ⟨t0, t1, t2, t3⟩ := gccells (hr.kept (kept_trans KA hb1)) hlt
        have e1 : (k : Int) < n := by omega
        have e2 : (0 : Int) ≤ k := by omega
        obtain ⟨hbk, hck, hdk⟩ := HB.out k hlt
        have bp := SP.out k hk
        have bb := SB.out k hk
        have bk := SK.out k hk
        have v1 : IntKind.i64.wrap (sp k + b k) = sp k + b k := IntWalk.i64_in _ (by omega)
        have v2 : IntKind.i64.wrap (sb k + c k) = sb k + c k := IntWalk.i64_in _ (by omega)
        have v3 : IntKind.i64.wrap (sk k + (75 * b k + 15 * c k + d k)) = sk k + (75 * b k + 15 * c k + d k) := IntWalk.i64_in _ (by omega)
        have T0 := Lib.hid t0
        have T1 := Lib.hid t1
        have T2 := Lib.hid t2
        have T3 := Lib.hid t3
        clear hr hsk t0 t1 t2 t3
        have KX := kept_trans hb (kept_alloc (Below.refl wr.heap.size wr) (.cells #[.string (a k), .int .i64 (b k), .int .i64 (c k), .int .i64 (d k)] 78))
        have HQ := Lib.hid hq
        obtain ⟨hl, q0, q1, q2, hf⟩ := hq
        have f0 := hf 0
        have f1 := hf 1
        have f2 := hf 2
        have t0 := cell_keep hb T0.out
        have t1 := cell_keep hb T1.out
        have t2 := cell_keep hb T2.out
        have t3 := cell_keep hb T3.out
        clear hf v1 v2 v3
        go_upto_region 7 with (fail)
        have HN := Lib.hid (fun w => i_need (a k) (b k) (c k) (d k) w hbk hck hdk)
        have HPL := Lib.hid (fun w => i_plus (sp k) (sb k) (sk k) (b k) (c k) (75 * b k + 15 * c k + d k) w (by omega) (by omega) (by omega))
        clear hbk hck hdk bp bb bk
        go_region_with (first | (go_at_call 66; refine (HN.out _).mono ?_; rintro e x1 ⟨rfl, hbx1⟩; have p0x1 := cell_kept (w1 := x1) HQ.out.2.1 (by repeat (first | assumption | exact Below.refl _ _ | refine kept_drew ?_ | refine kept_alloc ?_ _ | refine kept_trans ?_ (by assumption))); have p1x1 := cell_kept (w1 := x1) HQ.out.2.2.1 (by repeat (first | assumption | exact Below.refl _ _ | refine kept_drew ?_ | refine kept_alloc ?_ _ | refine kept_trans ?_ (by assumption))); have p2x1 := cell_kept (w1 := x1) HQ.out.2.2.2.1 (by repeat (first | assumption | exact Below.refl _ _ | refine kept_drew ?_ | refine kept_alloc ?_ _ | refine kept_trans ?_ (by assumption))); have r0x1 := free_kept' (w1 := x1) HQ.out.1 (HQ.out.2.2.2.2 0) (by repeat (first | assumption | exact Below.refl _ _ | refine kept_drew ?_ | refine kept_alloc ?_ _ | refine kept_trans ?_ (by assumption))); have r1x1 := free_kept' (w1 := x1) HQ.out.1 (HQ.out.2.2.2.2 1) (by repeat (first | assumption | exact Below.refl _ _ | refine kept_drew ?_ | refine kept_alloc ?_ _ | refine kept_trans ?_ (by assumption))); have r2x1 := free_kept' (w1 := x1) HQ.out.1 (HQ.out.2.2.2.2 2) (by repeat (first | assumption | exact Below.refl _ _ | refine kept_drew ?_ | refine kept_alloc ?_ _ | refine kept_trans ?_ (by assumption)))) | (go_at_call 65; refine (HPL.out _).mono ?_; rintro e x2 ⟨rfl, hbx2⟩; have p0x2 := cell_kept (w1 := x2) HQ.out.2.1 (by repeat (first | assumption | exact Below.refl _ _ | refine kept_drew ?_ | refine kept_alloc ?_ _ | refine kept_trans ?_ (by assumption))); have p1x2 := cell_kept (w1 := x2) HQ.out.2.2.1 (by repeat (first | assumption | exact Below.refl _ _ | refine kept_drew ?_ | refine kept_alloc ?_ _ | refine kept_trans ?_ (by assumption))); have p2x2 := cell_kept (w1 := x2) HQ.out.2.2.2.1 (by repeat (first | assumption | exact Below.refl _ _ | refine kept_drew ?_ | refine kept_alloc ?_ _ | refine kept_trans ?_ (by assumption))); have r0x2 := free_kept' (w1 := x2) HQ.out.1 (HQ.out.2.2.2.2 0) (by repeat (first | assumption | exact Below.refl _ _ | refine kept_drew ?_ | refine kept_alloc ?_ _ | refine kept_trans ?_ (by assumption))); have r1x2 := free_kept' (w1 := x2) HQ.out.1 (HQ.out.2.2.2.2 1) (by repeat (first | assumption | exact Below.refl _ _ | refine kept_drew ?_ | refine kept_alloc ?_ _ | refine kept_trans ?_ (by assumption))); have r2x2 := free_kept' (w1 := x2) HQ.out.1 (HQ.out.2.2.2.2 2) (by repeat (first | assumption | exact Below.refl _ _ | refine kept_drew ?_ | refine kept_alloc ?_ _ | refine kept_trans ?_ (by assumption)))))
        all_goals
          go_wp2_with fail
          go_roundw
          case rel => exact ⟨k + 1, by omega, by go_num, (by repeat (first | assumption | exact Below.refl _ _ | refine kept_drew ?_ | refine kept_set ?_ (by simp) _ | refine kept_alloc ?_ _ | refine kept_trans ?_ (by assumption))), by rw [N1.out, N2.out, N3.out]; exact (HQ.out.kept (by repeat (first | assumption | exact Below.refl _ _ | refine kept_drew ?_ | refine kept_alloc ?_ _ | refine kept_trans ?_ (by assumption)))).stored⟩
          case measure => simp [intOf]; omega
      · obtain rfl : k = n := by omega
        have hq2 := (RA.kept hb1).kept hb
        have hne : W.heap.size ≠ w1.heap.size := by have := hb1.size; simp at this; omega
        have HP := Lib.hid (fun w => i_ValidRoom (sp k) (sb k) (sk k) w)
        obtain ⟨hl, q0, q1, q2, hf⟩ := hq
        obtain ⟨hl', z0, z1, z2, hf'⟩ := hq2
        have g0 := hf' 0
        have g1 := hf' 1
        have g2 := hf' 2
        clear hf hf' HB SP SB SK N1 N2 N3
        cases hvr : vRoom (sp k) (sb k) (sk k)
        · rw [hvr] at HP
          have hR := Lib.hid (lrC_no hvr)
          go_wp2_with (go_at_call 67; refine (HP.out _).mono ?_; rintro e w2 ⟨rfl, hb2⟩; have q0 := cell_keep hb2 q0; have q1 := cell_keep hb2 q1; have q2 := cell_keep hb2 q2; have z0 := cell_keep hb2 z0; have z1 := cell_keep hb2 z1; have z2 := cell_keep hb2 z2; have g0 := free_keep' hb2 hl' g0; have g1 := free_keep' hb2 hl' g1; have g2 := free_keep' hb2 hl' g2)
          obtain ⟨y0, y1, y2⟩ := set3_at (v0 := .int .i64 0) (v1 := .int .i64 0) (v2 := .int .i64 0) z0 z1 z2
          refine bodyPost_ret (v := .tuple #[.agg #[.int .i64 0, .int .i64 0, .int .i64 0], .int .i64 5]) (by simp [results, go_sem, y0, y1, y2]) rfl ⟨by rw [hR.out]; rfl, kept_set (kept_set (kept_set (kept_trans (kept_trans (kept_trans KA hb1) hb) hb2) (by simp) _) (by simp) _) (by simp) _⟩
        · rw [hvr] at HP
          have hR := Lib.hid (lrC_yes hvr)
          go_wp2_with (go_at_call 67; refine (HP.out _).mono ?_; rintro e w2 ⟨rfl, hb2⟩; have q0 := cell_keep hb2 q0; have q1 := cell_keep hb2 q1; have q2 := cell_keep hb2 q2; have z0 := cell_keep hb2 z0; have z1 := cell_keep hb2 z1; have z2 := cell_keep hb2 z2; have g0 := free_keep' hb2 hl' g0; have g1 := free_keep' hb2 hl' g1; have g2 := free_keep' hb2 hl' g2)
          obtain ⟨y0, y1, y2⟩ := set3_at (v0 := .int .i64 (sp k)) (v1 := .int .i64 (sb k)) (v2 := .int .i64 (sk k)) z0 z1 z2
          refine bodyPost_ret (v := .tuple #[.agg #[.int .i64 (sp k), .int .i64 (sb k), .int .i64 (sk k)], .int .i64 0]) (by simp [results, go_sem, y0, y1, y2]) rfl ⟨by rw [hR.out]; rfl, kept_set (kept_set (kept_set (kept_trans (kept_trans (kept_trans KA hb1) hb) hb2) (by simp) _) (by simp) _) (by simp) _⟩

theorem l_LeastRoom {W : World} (v : Value) (n : Nat) (a : Nat → ByteArray) (b c d : Nat → Int) (hs : Sl W v 4 n (gc a b c d)) (hx : Hid (∀ i, i < n → ((a i).size : Int) ≤ 9223372036854775807)) : Calls Try.prog 4 #[v] W (Truly W) :=
  l_LeastRoom_of v n a b c d hs hx _ _ _ _ (fun w u h hb => s_LeastRoom u n a b c d w h hb) (fun w u h hb => i_LeastRoom u n a b c d w h hb)

end Go.Proofs.Ytfnollbeeehpnaa
