/- Whether groups fit in a car: the program, and the law. -/
import Derived.Test.YtfnollbeeehpnaaFits
import Derived.Test.YtfnollbeeehpnaaGLawT
namespace Go.Proofs.Ytfnollbeeehpnaa
open Go.RowKit Go.Deep
set_option linter.unusedVariables false
set_option maxRecDepth 100000

theorem i_size_group (ao : Option Addr) (n cap : Nat) (W : World) (h : (n : Int) ≤ 17592186044416) : Calls Try.prog 71 #[.slice ao n cap] W fun e W' => e = .returned (.int .i64 n) ∧ W = W' := by
  go_enter Try.func71, Try.ntmps71
  go_wp2
  go_ret
  exact ⟨rfl, rfl⟩

theorem i_fits (x y z p q r : Int) (W : World) : Calls Try.prog 72 #[.agg #[.int .i64 x, .int .i64 y, .int .i64 z], .agg #[.int .i64 p, .int .i64 q, .int .i64 r]] W fun e W' => e = .returned (.bool (fitB x y z p q r)) ∧ Below W.heap.size W W' := by
  rcases fitB_cases x y z p q r with ⟨h1, HV⟩ | ⟨h1, h2, HV⟩ | ⟨h1, h2, HV⟩
  all_goals
    go_enter Try.func72, Try.ntmps72
    go_wp2
    go_ret
    exact ⟨by rw [HV.out]; rfl, (by repeat (first | assumption | exact Below.refl _ _ | refine kept_drew ?_ | refine kept_drewN ?_ _ | refine kept_alloc ?_ _ | refine kept_set ?_ ?_ _ | (simp; done) | (simp; omega) | refine kept_trans ?_ (by assumption)))⟩

/-- The number before, or -1. -/
def prevZ (z : Nat → Int) : Nat → Int
  | 0 => -1
  | k + 1 => z k
theorem prev_rise {z : Nat → Int} {n : Int} {k : Nat} (h : ∀ i, i < k → riseAt z 0 (n - 1) i = true) (h0 : 0 ≤ n) : -1 ≤ prevZ z k ∧ prevZ z k ≤ n ∧ inB (z k) (prevZ z k + 1) (n - 1) = riseAt z 0 (n - 1) k := by
  have key : ∀ b : Bool, (b = true ↔ (prevZ z k + 1 ≤ z k ∧ z k ≤ n - 1)) → inB (z k) (prevZ z k + 1) (n - 1) = b := fun b hb => by
    rw [Bool.eq_iff_iff, inB_iff]; exact hb.symm
  cases k with
  | zero =>
    refine ⟨by simp [prevZ], by simp [prevZ]; omega, key _ ?_⟩
    rcases riseAt_cases z 0 (n - 1) 0 with ⟨h1, h2⟩ | ⟨h1, _, h2⟩ | ⟨_, h3, _⟩ | ⟨_, h3, _⟩
    · rw [h2.out]
      have : ¬ (0 ≤ z 0 ∧ z 0 ≤ n - 1) := fun hh => by rw [inB_yes hh.1 hh.2] at h1; cases h1
      simp [prevZ]; omega
    · rw [h2.out]; have := inB_out h1; simp [prevZ]; omega
    · omega
    · omega
  | succ k =>
    have hp := (riseAt_out (h k (by omega))).1
    refine ⟨by simp [prevZ]; omega, by simp [prevZ]; omega, key _ ?_⟩
    rcases riseAt_cases z 0 (n - 1) (k + 1) with ⟨h1, h2⟩ | ⟨h1, h3, h2⟩ | ⟨h1, _, h3, h2⟩ | ⟨h1, _, h3, h2⟩
    · rw [h2.out]
      have : ¬ (0 ≤ z (k + 1) ∧ z (k + 1) ≤ n - 1) := fun hh => by rw [inB_yes hh.1 hh.2] at h1; cases h1
      simp [prevZ]; omega
    · omega
    · rw [h2.out]; have := inB_out h1; simp only [Nat.add_sub_cancel] at h3; simp [prevZ]; omega
    · rw [h2.out]; simp only [Nat.add_sub_cancel] at h3; simp [prevZ]; omega
attribute [irreducible] prevZ
theorem prevZ_zero (z : Nat → Int) : prevZ z 0 = -1 := by unfold prevZ; rfl
theorem prevZ_succ (z : Nat → Int) (k : Nat) : prevZ z (k + 1) = z k := by unfold prevZ; rfl
theorem fitAll_eq (b c d z : Nat → Int) (m : Nat) (p q r : Int) : fitAll b c d z m p q r = fitB (sumI (at' b z) m) (sumI (at' c z) m) (sumI (at' (kgOf b c d) z) m) p q r := by unfold fitAll; rfl

set_option maxHeartbeats 3200000 in
theorem i_FitsCar (v v1 : Value) (n m : Nat) (a : Nat → ByteArray) (b c d z : Nat → Int) (p q r : Int) (W : World) (hs : Sl W v 4 n (gc a b c d)) (hs1 : Sl W v1 1 m (ic z)) (hx : Hid (∀ i, i < n → ((a i).size : Int) ≤ 1048576)) :
    Calls Try.prog 26 #[v, v1, .agg #[.int .i64 p, .int .i64 q, .int .i64 r]] W fun e W' => e = .returned (.bool (fcV n m a b c d z p q r)) ∧ Below W.heap.size W W' := by
  have KA := kept_alloc (Below.refl W.heap.size W) (.cells #[.int .i64 p, .int .i64 q, .int .i64 r] 30)
  have HSA := hs.kept KA
  have HSB := hs1.kept KA
  have q0 : (W.alloc (.cells #[.int .i64 p, .int .i64 q, .int .i64 r] 30)).cell? ⟨W.heap.size, 0, none⟩ = some (.int .i64 p) := boxed_at rfl rfl
  have q1 : (W.alloc (.cells #[.int .i64 p, .int .i64 q, .int .i64 r] 30)).cell? ⟨W.heap.size, 1, none⟩ = some (.int .i64 q) := boxed_at rfl rfl
  have q2 : (W.alloc (.cells #[.int .i64 p, .int .i64 q, .int .i64 r] 30)).cell? ⟨W.heap.size, 2, none⟩ = some (.int .i64 r) := boxed_at rfl rfl
  have HV := Lib.hid (fun w h => i_listGroup v n a b c d w h hx)
  have HP := Lib.hid (fun w => i_ValidRoom p q r w)
  obtain ⟨hn, ao, cap, rfl, hr⟩ := hs
  obtain ⟨hn1, ao1, cap1, rfl, hr1⟩ := hs1
  cases hv : vGroups n a b c d
  · rw [hv] at HV
    have HF := Lib.hid (fcV_bad (m := m) (z := z) (p := p) (q := q) (r := r) hv)
    clear hr hr1
    go_enter Try.func26, Try.ntmps26
    go_wp2_with (go_at_call 18; refine (HV.out _ HSA).mono ?_; rintro e w1 ⟨rfl, hb1⟩)
    go_ret
    exact ⟨by rw [HF.out]; rfl, kept_trans KA hb1⟩
  rw [hv] at HV
  have HO := Lib.hid (vGroups_out hv)
  have OK := Lib.hid (fun h1 h2 => fcV_ok (m := m) (z := z) (p := p) (q := q) (r := r) hv h1 h2)
  clear hv
  cases hv1 : vRoom p q r
  · rw [hv1] at HP
    have HF := Lib.hid (fcV_room (n := n) (m := m) (a := a) (b := b) (c := c) (d := d) (z := z) hv1)
    clear hr hr1
    go_enter Try.func26, Try.ntmps26
    go_wp2_with (first | (go_at_call 67; refine (HP.out _).mono ?_; rintro e w2 ⟨rfl, hb2⟩) | (go_at_call 18; refine (HV.out _ HSA).mono ?_; rintro e w1 ⟨rfl, hb1⟩; have u0 := cell_keep hb1 q0; have u1 := cell_keep hb1 q1; have u2 := cell_keep hb1 q2))
    go_ret
    exact ⟨by rw [HF.out]; rfl, kept_trans (kept_trans KA hb1) hb2⟩
  rw [hv1] at HP
  have OK := Lib.hid (fun h2 => OK.out hv1 h2)
  have BAD := Lib.hid (fun h => fcV_rise (n := n) (m := m) (a := a) (b := b) (c := c) (d := d) (z := z) (p := p) (q := q) (r := r) h)
  have BAD2 := Lib.hid (fun (k : Nat) (h : k < m) h1 => rises_no (lo := 0) (hi := (n : Int) - 1) (z := z) h h1)
  have YES := Lib.hid (rises_yes (n := m) (z := z) (lo := 0) (hi := (n : Int) - 1))
  have PR := Lib.hid (fun (k : Nat) h => prev_rise (z := z) (n := (n : Int)) (k := k) h (by omega))
  have FEW := Lib.hid (fun (k : Nat) h => rises_few (m := k) (n := (n : Int)) (z := z) h)
  have RO := Lib.hid (fun (k : Nat) h => (riseAt_out (z := z) (lo := 0) (hi := (n : Int) - 1) (i := k) h).1)
  have FA := Lib.hid (fitAll_eq b c d z m p q r)
  have PZ := Lib.hid (prevZ_succ z)
  have PZ0 := prevZ_zero z
  have HB : Hid (∀ i, i < n → (1 ≤ b i ∧ b i ≤ 200) ∧ (0 ≤ c i ∧ c i ≤ 40) ∧ (0 ≤ d i ∧ d i ≤ 100000)) := fun i hi => (vGr_out (HO.out.2 i hi)).2
  have hn12 := HO.out.1
  have ZB : Hid (∀ i, (0 ≤ z i ∧ z i < n) → (1 ≤ at' b z i ∧ at' b z i ≤ 200) ∧ (0 ≤ at' c z i ∧ at' c z i ≤ 40) ∧ (0 ≤ at' (kgOf b c d) z i ∧ at' (kgOf b c d) z i ≤ 115600)) := fun i hi => by
    have h2 := HB.out (z i).toNat (by omega)
    unfold at' kgOf
    omega
  have SP : Hid (∀ k, (∀ i, i < k → 0 ≤ z i ∧ z i < n) → 0 ≤ sumI (at' b z) k ∧ sumI (at' b z) k ≤ k * 200) := fun k h => sumI_bd (n := k) (fun i hi => by have := ZB.out i (h i hi); omega) k (by omega)
  have SB : Hid (∀ k, (∀ i, i < k → 0 ≤ z i ∧ z i < n) → 0 ≤ sumI (at' c z) k ∧ sumI (at' c z) k ≤ k * 40) := fun k h => sumI_bd (n := k) (fun i hi => by have := ZB.out i (h i hi); omega) k (by omega)
  have SK : Hid (∀ k, (∀ i, i < k → 0 ≤ z i ∧ z i < n) → 0 ≤ sumI (at' (kgOf b c d) z) k ∧ sumI (at' (kgOf b c d) z) k ≤ k * 115600) := fun k h => sumI_bd (n := k) (fun i hi => by have := ZB.out i (h i hi); omega) k (by omega)
  have NX : Hid (∀ k, (0 ≤ z k ∧ z k < n) → ∃ j : Nat, j < n ∧ z k = (j : Int) ∧ sumI (at' b z) (k + 1) = sumI (at' b z) k + b j ∧ sumI (at' c z) (k + 1) = sumI (at' c z) k + c j ∧ sumI (at' (kgOf b c d) z) (k + 1) = sumI (at' (kgOf b c d) z) k + (75 * b j + 15 * c j + d j)) := fun k h1 =>
    ⟨(z k).toNat, by omega, by omega, rfl, rfl, rfl⟩
  have Z1 : sumI (at' b z) 0 = 0 := rfl
  have Z2 : sumI (at' c z) 0 = 0 := rfl
  have Z3 : sumI (at' (kgOf b c d) z) 0 = 0 := rfl
  clear hv1 HO ZB
  generalize sumI (at' b z) = sp at *
  generalize sumI (at' c z) = sb at *
  generalize sumI (at' (kgOf b c d) z) = sk at *
  generalize prevZ z = pz at *
  go_enter Try.func26, Try.ntmps26
  go_upto_region 3 with (first | (go_at_call 67; refine (HP.out _).mono ?_; rintro e w2 ⟨rfl, hb2⟩) | (go_at_call 18; refine (HV.out _ HSA).mono ?_; rintro e w1 ⟨rfl, hb1⟩; have u0 := cell_keep hb1 q0; have u1 := cell_keep hb1 q1; have u2 := cell_keep hb1 q2))
  have u0 := cell_keep hb2 u0
  have u1 := cell_keep hb2 u1
  have u2 := cell_keep hb2 u2
  have KB := kept_trans (kept_trans KA hb1) hb2
  have HSA := (HSA.kept hb1).kept hb2
  have HSB := (HSB.kept hb1).kept hb2
  clear HV HP q0 q1 q2
  go_wp2_with fail
  go_loopw [8, 10, 21] (fun l x i wr => ∃ (k : Nat) (L : Int) (y : Value), k ≤ m ∧ i = .int .i64 k ∧ y = x ∧ l = .int .i64 L ∧ Hid (L = pz k) ∧ Below w2.heap.size w2 wr ∧ RoomAt wr w2.heap.size (sp k) (sb k) (sk k) ∧ Hid (∀ i, i < k → riseAt z 0 ((n : Int) - 1) i = true)) (fun _ _ i _ => m - (intOf i).toNat)
  case atStart =>
    refine ⟨0, -1, _, by omega, rfl, rfl, rfl, PZ0.symm, kept_alloc (Below.refl _ _) _, ?_, fun i hi => by omega⟩
    rw [Z1, Z2, Z3]
    exact RoomAt.new rfl
  case round =>
    obtain ⟨k, L, y, hk, rfl, rfl, rfl, hL, hb, hq, hno⟩ := hrel
    by_cases hlt : k < m
    · rcases hr1 with h0 | ⟨g1, off1, rfl, hr1⟩
      · omega
      have hs0 := ((hr1.kept KB).kept hb).cell (i := k) (by omega)
      simp only [ic] at hs0
      obtain ⟨l1, l2, HW⟩ := PR.out k hno.out
      rw [← hL.out] at l1 l2 HW
      have HW2 := Lib.hid (fun w => i_within (z k) (L + 1) ((n : Int) - 1) w)
      rw [HW] at HW2
      clear HW hr1
      cases hra : riseAt z 0 ((n : Int) - 1) k
      · rw [hra] at HW2
        have HF := Lib.hid (BAD.out (BAD2.out k hlt hra))
        clear hra hq
        go_wp2_with (first | (go_at_call 70; refine (HW2.out _).mono ?_; rintro e w' ⟨rfl, rfl⟩) | (go_at_call 71; refine (i_size_group _ _ _ _ ?_).mono ?_; (omega); rintro e w' ⟨rfl, rfl⟩))
        go_ret
        exact ⟨by rw [HF.out]; rfl, kept_trans KB hb⟩
      · rw [hra] at HW2
        have hno1 : Hid (∀ i, i < k + 1 → riseAt z 0 ((n : Int) - 1) i = true) := fun i hi => by
          by_cases e : i = k
          · rw [e]; exact hra
          · exact hno.out i (by omega)
        have hzz := RO.out k hra
        have hfew := FEW.out (k + 1) hno1.out k (by omega)
        have hzb : ∀ i, i < k → 0 ≤ z i ∧ z i < n := fun i hi => by have := RO.out i (hno.out i hi); omega
        have bp := SP.out k hzb
        have bb := SB.out k hzb
        have bk := SK.out k hzb
        obtain ⟨j, hj, hzk, N1, N2, N3⟩ := NX.out k (by omega)
        have HPZ := Lib.hid (PZ.out k)
        have N1 := Lib.hid N1
        have N2 := Lib.hid N2
        have N3 := Lib.hid N3
        rw [hzk] at hs0 HW2 HPZ
        rw [hzk] at hfew
        have hjn : (j : Int) < n := by omega
        rcases hr with h0 | ⟨g, off, rfl, hr⟩
        · omega
        obtain ⟨t0, t1, t2, t3⟩ := gccells ((hr.kept KB).kept hb) hj
        obtain ⟨hbk, hck, hdk⟩ := HB.out j hj
        have HN := Lib.hid (fun w => i_need (a j) (b j) (c j) (d j) w hbk hck hdk)
        have HPL := Lib.hid (fun w => i_plus (sp k) (sb k) (sk k) (b j) (c j) (75 * b j + 15 * c j + d j) w (by omega) (by omega) (by omega))
        have HQ := Lib.hid hq
        obtain ⟨hl, p0, p1, p2, hf⟩ := hq
        have f0 := hf 0
        have f1 := hf 1
        have f2 := hf 2
        have e1 : L + 1 ≤ 9223372036854775807 := by omega
        clear hf hra hzk hzz hzb bp bb bk hr hno hbk hck hdk hL
        go_upto_region 10 with (first | (go_at_call 70; refine (HW2.out _).mono ?_; rintro e w' ⟨rfl, rfl⟩) | (go_at_call 71; refine (i_size_group _ _ _ _ ?_).mono ?_; (omega); rintro e w' ⟨rfl, rfl⟩))
        clear HW2
        go_region_with (first | (go_at_call 66; refine (HN.out _).mono ?_; rintro e x1 ⟨rfl, hbx1⟩; have p0x1 := cell_kept (w1 := x1) HQ.out.2.1 (by repeat (first | assumption | exact Below.refl _ _ | refine kept_drew ?_ | refine kept_alloc ?_ _ | refine kept_trans ?_ (by assumption))); have p1x1 := cell_kept (w1 := x1) HQ.out.2.2.1 (by repeat (first | assumption | exact Below.refl _ _ | refine kept_drew ?_ | refine kept_alloc ?_ _ | refine kept_trans ?_ (by assumption))); have p2x1 := cell_kept (w1 := x1) HQ.out.2.2.2.1 (by repeat (first | assumption | exact Below.refl _ _ | refine kept_drew ?_ | refine kept_alloc ?_ _ | refine kept_trans ?_ (by assumption))); have r0x1 := free_kept' (w1 := x1) HQ.out.1 (HQ.out.2.2.2.2 0) (by repeat (first | assumption | exact Below.refl _ _ | refine kept_drew ?_ | refine kept_alloc ?_ _ | refine kept_trans ?_ (by assumption))); have r1x1 := free_kept' (w1 := x1) HQ.out.1 (HQ.out.2.2.2.2 1) (by repeat (first | assumption | exact Below.refl _ _ | refine kept_drew ?_ | refine kept_alloc ?_ _ | refine kept_trans ?_ (by assumption))); have r2x1 := free_kept' (w1 := x1) HQ.out.1 (HQ.out.2.2.2.2 2) (by repeat (first | assumption | exact Below.refl _ _ | refine kept_drew ?_ | refine kept_alloc ?_ _ | refine kept_trans ?_ (by assumption)))) | (go_at_call 65; refine (HPL.out _).mono ?_; rintro e x2 ⟨rfl, hbx2⟩; have p0x2 := cell_kept (w1 := x2) HQ.out.2.1 (by repeat (first | assumption | exact Below.refl _ _ | refine kept_drew ?_ | refine kept_alloc ?_ _ | refine kept_trans ?_ (by assumption))); have p1x2 := cell_kept (w1 := x2) HQ.out.2.2.1 (by repeat (first | assumption | exact Below.refl _ _ | refine kept_drew ?_ | refine kept_alloc ?_ _ | refine kept_trans ?_ (by assumption))); have p2x2 := cell_kept (w1 := x2) HQ.out.2.2.2.1 (by repeat (first | assumption | exact Below.refl _ _ | refine kept_drew ?_ | refine kept_alloc ?_ _ | refine kept_trans ?_ (by assumption))); have r0x2 := free_kept' (w1 := x2) HQ.out.1 (HQ.out.2.2.2.2 0) (by repeat (first | assumption | exact Below.refl _ _ | refine kept_drew ?_ | refine kept_alloc ?_ _ | refine kept_trans ?_ (by assumption))); have r1x2 := free_kept' (w1 := x2) HQ.out.1 (HQ.out.2.2.2.2 1) (by repeat (first | assumption | exact Below.refl _ _ | refine kept_drew ?_ | refine kept_alloc ?_ _ | refine kept_trans ?_ (by assumption))); have r2x2 := free_kept' (w1 := x2) HQ.out.1 (HQ.out.2.2.2.2 2) (by repeat (first | assumption | exact Below.refl _ _ | refine kept_drew ?_ | refine kept_alloc ?_ _ | refine kept_trans ?_ (by assumption)))))
        all_goals
          go_wp2_with fail
          go_roundw
          case rel => exact ⟨k + 1, j, _, by omega, by go_num, rfl, rfl, HPZ.out.symm, (by repeat (first | assumption | exact Below.refl _ _ | refine kept_drew ?_ | refine kept_set ?_ (by simp) _ | refine kept_alloc ?_ _ | refine kept_trans ?_ (by assumption))), by rw [N1.out, N2.out, N3.out]; exact (HQ.out.kept (by repeat (first | assumption | exact Below.refl _ _ | refine kept_drew ?_ | refine kept_alloc ?_ _ | refine kept_trans ?_ (by assumption)))).stored, hno1⟩
          case measure => simp [intOf]; omega
    · obtain rfl : k = m := by omega
      have OK := Lib.hid (OK.out (YES.out hno.out))
      have HT := Lib.hid (fun w => i_fits (sp k) (sb k) (sk k) p q r w)
      obtain ⟨hl, p0, p1, p2, hf⟩ := hq
      have u0 := cell_keep hb u0
      have u1 := cell_keep hb u1
      have u2 := cell_keep hb u2
      clear hf hr hr1 SP SB SK NX HB PZ PZ0 RO FEW PR YES BAD BAD2 hL hno
      go_wp2_with (go_at_call 72; refine (HT.out _).mono ?_; rintro e w3 ⟨rfl, hb3⟩)
      go_ret
      exact ⟨by rw [OK.out, FA.out]; rfl, kept_trans (kept_trans KB hb) hb3⟩

theorem l_FitsCar {W : World} (v0 : Value) (n : Nat) (a : Nat → ByteArray) (b c d : Nat → Int) (hs : Sl W v0 4 n (gc a b c d)) (hx : Hid (∀ i, i < n → ((a i).size : Int) ≤ 9223372036854775807)) (v1 : Value) (m : Nat) (z : Nat → Int) (hs1 : Sl W v1 1 m (ic z)) (p q r : Int) : Calls Try.prog 5 #[v0, v1, .agg #[.int .i64 p, .int .i64 q, .int .i64 r]] W (Truly W) :=
  l_FitsCar_of v0 n a b c d v1 m z p q r hs hx hs1 _ (fun w u0 u1 h h1 hb => s_FitsCar u0 u1 n m a b c d z p q r w h h1 hb) (fun w u0 u1 h h1 hb => i_FitsCar u0 u1 n m a b c d z p q r w h h1 hb)

end Go.Proofs.Ytfnollbeeehpnaa
