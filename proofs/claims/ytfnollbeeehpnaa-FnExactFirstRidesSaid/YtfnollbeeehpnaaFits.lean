/- Whether groups fit in a car: the meaning, and the reference. -/
import Derived.Test.YtfnollbeeehpnaaRoomS
namespace Go.Proofs.Ytfnollbeeehpnaa
open Go.RowKit Go.Deep
set_option linter.unusedVariables false
set_option maxRecDepth 100000

/-- Number i is within bounds, and greater than the one before. -/
def riseAt (z : Nat → Int) (lo hi : Int) (i : Nat) : Bool := inB (z i) lo hi && (decide (i = 0) || decide (z (i - 1) < z i))
def rises (n : Nat) (z : Nat → Int) (lo hi : Int) : Bool := allTo (riseAt z lo hi) n
theorem riseAt_out {z : Nat → Int} {lo hi : Int} {i : Nat} (h : riseAt z lo hi i = true) : (lo ≤ z i ∧ z i ≤ hi) ∧ (i ≠ 0 → z (i - 1) < z i) := by
  simp only [riseAt, Bool.and_eq_true, Bool.or_eq_true, decide_eq_true_eq, inB_iff] at h
  exact ⟨h.1, fun h0 => h.2.resolve_left h0⟩
theorem riseAt_cases (z : Nat → Int) (lo hi : Int) (k : Nat) :
    (inB (z k) lo hi = false ∧ Hid (riseAt z lo hi k = false)) ∨
    (inB (z k) lo hi = true ∧ k = 0 ∧ Hid (riseAt z lo hi k = true)) ∨
    (inB (z k) lo hi = true ∧ 0 < k ∧ z (k - 1) < z k ∧ Hid (riseAt z lo hi k = true)) ∨
    (inB (z k) lo hi = true ∧ 0 < k ∧ z k ≤ z (k - 1) ∧ Hid (riseAt z lo hi k = false)) := by
  cases hv : inB (z k) lo hi
  · exact .inl ⟨rfl, by show riseAt z lo hi k = false; unfold riseAt; rw [hv]; rfl⟩
  · by_cases h0 : k = 0
    · exact .inr (.inl ⟨rfl, h0, by show riseAt z lo hi k = true; unfold riseAt; rw [hv, h0]; rfl⟩)
    · by_cases h : z (k - 1) < z k
      · exact .inr (.inr (.inl ⟨rfl, by omega, h, by show riseAt z lo hi k = true; unfold riseAt; rw [hv]; simp [h]⟩))
      · exact .inr (.inr (.inr ⟨rfl, by omega, by omega, by show riseAt z lo hi k = false; unfold riseAt; rw [hv]; simp [h0]; omega⟩))
theorem rises_no {n k : Nat} {z : Nat → Int} {lo hi : Int} (hk : k < n) (h : riseAt z lo hi k = false) : rises n z lo hi = false := allTo_no hk h
theorem rises_yes {n : Nat} {z : Nat → Int} {lo hi : Int} (h : ∀ i, i < n → riseAt z lo hi i = true) : rises n z lo hi = true := allTo_yes h
theorem rises_out {n : Nat} {z : Nat → Int} {lo hi : Int} (h : rises n z lo hi = true) : ∀ i, i < n → riseAt z lo hi i = true := allTo_out h
theorem rises_in {n : Nat} {z : Nat → Int} {lo hi : Int} (h : rises n z lo hi = true) : ∀ i, i < n → lo ≤ z i ∧ z i ≤ hi := fun i hi => (riseAt_out (rises_out h i hi)).1
attribute [irreducible] rises riseAt

theorem s_l00Rises (v : Value) (n : Nat) (z : Nat → Int) (lo hi : Int) (W : World) (hs : Sl W v 1 n (ic z)) : Calls Try.prog 68 #[v, .int .i64 lo, .int .i64 hi] W fun e W' => e = .returned (.bool (rises n z lo hi)) ∧ Below W.heap.size W W' := by
  obtain ⟨hn, ao, cap, rfl, hr⟩ := hs
  have HE : Hid ((∀ i, i < n → riseAt z lo hi i = true) → rises n z lo hi = true) := rises_yes
  have HX : Hid (∀ k, k < n → riseAt z lo hi k = false → rises n z lo hi = false) := fun k hk h => rises_no hk h
  rcases hr with h0 | ⟨g, off, rfl, hr⟩
  · have h0' : n ≤ 0 := by omega
    clear h0
    go_enter Try.func68, Try.ntmps68
    go_wp2
    refine wp_loop_rounds 1 ?_
    rw [rounds_succ]
    go_wp2
    go_ret
    exact ⟨by rw [HE.out (fun i hi => by omega)]; rfl, (by repeat (first | assumption | exact Below.refl _ _ | refine kept_drew ?_ | refine kept_drewN ?_ _ | refine kept_alloc ?_ _ | refine kept_set ?_ ?_ _ | (simp; done) | (simp; omega) | refine kept_trans ?_ (by assumption)))⟩
  · go_enter Try.func68, Try.ntmps68
    go_wp2
    go_loopw [7] (fun i wr => ∃ k : Nat, k ≤ n ∧ i = .int .i64 k ∧ Below W.heap.size W wr ∧ Hid (∀ i, i < k → riseAt z lo hi i = true)) (fun i _ => n - (intOf i).toNat)
    case atStart => exact ⟨0, Nat.zero_le _, rfl, (by repeat (first | assumption | exact Below.refl _ _ | refine kept_drew ?_ | refine kept_drewN ?_ _ | refine kept_alloc ?_ _ | refine kept_set ?_ ?_ _ | (simp; done) | (simp; omega) | refine kept_trans ?_ (by assumption))), fun i hi => by omega⟩
    case round =>
      obtain ⟨k, hk, rfl, hb, hno⟩ := hrel
      by_cases hlt : k < n
      · have hs0 := (hr.kept hb).cell (i := k) (by omega)
        have ht0 := (hr.kept hb).cell (i := k - 1) (by omega)
        simp only [ic] at hs0 ht0
        have HN : Hid (riseAt z lo hi k = true → ∀ i, i < k + 1 → riseAt z lo hi i = true) := fun h i hi => by
          by_cases e : i = k
          · rw [e]; exact h
          · exact hno.out i (by omega)
        have HX := Lib.hid (HX.out k hlt)
        have HC := riseAt_cases z lo hi k
        have hone : ∀ w, Calls Try.prog 90 #[.int .i64 (z k), .int .i64 lo, .int .i64 hi] w fun e W' => e = .returned (.bool (inB (z k) lo hi)) ∧ W' = w := fun w => (s_l00In (z k) lo hi w).mono fun _ _ ⟨he, hw⟩ => ⟨he, hw.symm⟩
        clear hr
        rcases HC with ⟨hv, hp⟩ | ⟨hv, h0, hp⟩ | ⟨hv, h0, hc, hp⟩ | ⟨hv, h0, hc, hp⟩
        · rw [hv] at hone
          go_wp2_with fail
          go_quiet ((go_at_call 90; exact Calls.quiet_of_same (hone _)))
          go_wp2_with fail
          go_ret
          exact ⟨by rw [HX.out hp.out]; rfl, (by repeat (first | assumption | exact Below.refl _ _ | refine kept_drew ?_ | refine kept_drewN ?_ _ | refine kept_alloc ?_ _ | refine kept_set ?_ ?_ _ | (simp; done) | (simp; omega) | refine kept_trans ?_ (by assumption)))⟩
        · have h0' : k ≤ 0 := by omega
          have hd : decide (0 < k) = false := by simp; omega
          clear h0
          rw [hv] at hone
          go_wp2_with fail
          go_quiet ((go_at_call 90; exact Calls.quiet_of_same (hone _)))
          go_wp2_with fail
          go_roundw
          case rel => exact ⟨k + 1, by omega, by go_num, (by repeat (first | assumption | exact Below.refl _ _ | refine kept_drew ?_ | refine kept_drewN ?_ _ | refine kept_alloc ?_ _ | refine kept_set ?_ ?_ _ | (simp; done) | (simp; omega) | refine kept_trans ?_ (by assumption))), HN.out hp.out⟩
          case measure => simp [intOf]; omega
        · rw [hv] at hone
          go_wp2_with fail
          go_quiet ((go_at_call 90; exact Calls.quiet_of_same (hone _)))
          go_wp2_with fail
          go_roundw
          case rel => exact ⟨k + 1, by omega, by go_num, (by repeat (first | assumption | exact Below.refl _ _ | refine kept_drew ?_ | refine kept_drewN ?_ _ | refine kept_alloc ?_ _ | refine kept_set ?_ ?_ _ | (simp; done) | (simp; omega) | refine kept_trans ?_ (by assumption))), HN.out hp.out⟩
          case measure => simp [intOf]; omega
        · rw [hv] at hone
          go_wp2_with fail
          go_quiet ((go_at_call 90; exact Calls.quiet_of_same (hone _)))
          go_wp2_with fail
          go_ret
          exact ⟨by rw [HX.out hp.out]; rfl, (by repeat (first | assumption | exact Below.refl _ _ | refine kept_drew ?_ | refine kept_drewN ?_ _ | refine kept_alloc ?_ _ | refine kept_set ?_ ?_ _ | (simp; done) | (simp; omega) | refine kept_trans ?_ (by assumption)))⟩
      · have HE := Lib.hid (HE.out (fun i hi => hno.out i (by omega)))
        go_wp2
        go_ret
        exact ⟨by rw [HE.out]; rfl, hb⟩

/-- The sums are not greater than the room. -/
def fitB (x y z p q r : Int) : Bool := decide (x ≤ p) && decide (y ≤ q) && decide (z ≤ r)
theorem fitB_cases (x y z p q r : Int) : (p < x ∧ Hid (fitB x y z p q r = false)) ∨ (x ≤ p ∧ q < y ∧ Hid (fitB x y z p q r = false)) ∨ (x ≤ p ∧ y ≤ q ∧ Hid (fitB x y z p q r = decide (z ≤ r))) := by
  by_cases h1 : x ≤ p
  · by_cases h2 : y ≤ q
    · exact .inr (.inr ⟨h1, h2, by show fitB x y z p q r = decide (z ≤ r); unfold fitB; simp [h1, h2]⟩)
    · exact .inr (.inl ⟨h1, by omega, by show fitB x y z p q r = false; unfold fitB; simp [h1, h2]⟩)
  · exact .inl ⟨by omega, by show fitB x y z p q r = false; unfold fitB; simp [h1]⟩
attribute [irreducible] fitB

/-- The values at the places that a list of numbers names. -/
def at' (b : Nat → Int) (z : Nat → Int) (i : Nat) : Int := b (z i).toNat
def fitAll (b c d z : Nat → Int) (m : Nat) (p q r : Int) : Bool := fitB (sumI (at' b z) m) (sumI (at' c z) m) (sumI (at' (kgOf b c d) z) m) p q r

set_option maxHeartbeats 1600000 in
theorem s_l17Fits (v v1 : Value) (n m : Nat) (a : Nat → ByteArray) (b c d z : Nat → Int) (p q r : Int) (g0 : Nat) (W : World) (hs : Sl W v 4 n (gc a b c d)) (hs1 : Sl W v1 1 m (ic z)) (hm : m ≤ 1048576)
    (HZ : Hid (∀ i, i < m → 0 ≤ z i ∧ z i < n)) (HB : Hid (∀ i, i < n → (1 ≤ b i ∧ b i ≤ 200) ∧ (0 ≤ c i ∧ c i ≤ 40) ∧ (0 ≤ d i ∧ d i ≤ 100000)))
    (c0 : W.cell? ⟨g0, 0, none⟩ = some (.int .i64 p)) (c1 : W.cell? ⟨g0, 1, none⟩ = some (.int .i64 q)) (c2 : W.cell? ⟨g0, 2, none⟩ = some (.int .i64 r)) :
    Calls Try.prog 69 #[v, v1, .pointer (some ⟨g0, 0, none⟩)] W fun e W' => e = .returned (.bool (fitAll b c d z m p q r)) ∧ Below W.heap.size W W' := by
  have ZB : ∀ i, i < m → (1 ≤ at' b z i ∧ at' b z i ≤ 200) ∧ (0 ≤ at' c z i ∧ at' c z i ≤ 40) ∧ (0 ≤ at' (kgOf b c d) z i ∧ at' (kgOf b c d) z i ≤ 115600) := fun i hi => by
    have h1 := HZ.out i hi
    have h2 := HB.out (z i).toNat (by omega)
    unfold at' kgOf
    omega
  have SP : Hid (∀ k, k ≤ m → 0 ≤ sumI (at' b z) k ∧ sumI (at' b z) k ≤ k * 200) := sumI_bd fun i hi => by have := ZB i hi; omega
  have SB : Hid (∀ k, k ≤ m → 0 ≤ sumI (at' c z) k ∧ sumI (at' c z) k ≤ k * 40) := sumI_bd fun i hi => by have := ZB i hi; omega
  have SK : Hid (∀ k, k ≤ m → 0 ≤ sumI (at' (kgOf b c d) z) k ∧ sumI (at' (kgOf b c d) z) k ≤ k * 115600) := sumI_bd fun i hi => by have := ZB i hi; omega
  have NX : Hid (∀ k, k < m → ∃ j : Nat, j < n ∧ z k = (j : Int) ∧ sumI (at' b z) (k + 1) = sumI (at' b z) k + b j ∧ sumI (at' c z) (k + 1) = sumI (at' c z) k + c j ∧ sumI (at' (kgOf b c d) z) (k + 1) = sumI (at' (kgOf b c d) z) k + (75 * b j + 15 * c j + d j)) := fun k hk => by
    have h1 := HZ.out k hk
    exact ⟨(z k).toNat, by omega, by omega, rfl, rfl, rfl⟩
  have Z1 : sumI (at' b z) 0 = 0 := rfl
  have Z2 : sumI (at' c z) 0 = 0 := rfl
  have Z3 : sumI (at' (kgOf b c d) z) 0 = 0 := rfl
  have FC := Lib.hid (fitB_cases (sumI (at' b z) m) (sumI (at' c z) m) (sumI (at' (kgOf b c d) z) m) p q r)
  unfold fitAll
  clear ZB HZ
  generalize sumI (at' b z) = sp at *
  generalize sumI (at' c z) = sb at *
  generalize sumI (at' (kgOf b c d) z) = sk at *
  obtain ⟨hn, ao, cap, rfl, hr⟩ := hs
  obtain ⟨hn1, ao1, cap1, rfl, hr1⟩ := hs1
  go_enter Try.func69, Try.ntmps69
  go_wp2
  go_loopw [7, 8, 9, 10] (fun x y t i wr => ∃ k : Nat, k ≤ m ∧ i = .int .i64 k ∧ x = .int .i64 (sp k) ∧ y = .int .i64 (sb k) ∧ t = .int .i64 (sk k) ∧ Below W.heap.size W wr) (fun _ _ _ i _ => m - (intOf i).toNat)
  case atStart => exact ⟨0, Nat.zero_le _, rfl, by rw [Z1], by rw [Z2], by rw [Z3], (by repeat (first | assumption | exact Below.refl _ _ | refine kept_drew ?_ | refine kept_drewN ?_ _ | refine kept_alloc ?_ _ | refine kept_set ?_ ?_ _ | (simp; done) | (simp; omega) | refine kept_trans ?_ (by assumption)))⟩
  case round =>
    obtain ⟨k, hk, rfl, rfl, rfl, rfl, hb⟩ := hrel
    by_cases hlt : k < m
    · obtain ⟨j, hj, hzk, N1, N2, N3⟩ := NX.out k hlt
      have N1 := Lib.hid N1
      have N2 := Lib.hid N2
      have N3 := Lib.hid N3
      rcases hr with h0 | ⟨g, off, rfl, hr⟩
      · omega
      rcases hr1 with h0 | ⟨g1, off1, rfl, hr1⟩
      · omega
      obtain ⟨t0, t1, t2, t3⟩ := gccells (hr.kept hb) hj
      have hs0 := (hr1.kept hb).cell (i := k) (by omega)
      simp only [ic] at hs0
      rw [hzk] at hs0
      obtain ⟨hbk, hck, hdk⟩ := HB.out j hj
      have bp := SP.out k hk
      have bb := SB.out k hk
      have bk := SK.out k hk
      have e1 : (j : Int) < n := by omega
      clear hr hr1 hzk
      go_wp2_with (go_at_call 63; refine (s_l17Kilos (a j) (b j) (c j) (d j) _ 0 _ hbk hck hdk (boxed_at rfl rfl) (boxed_at rfl rfl) (boxed_at rfl rfl)).mono ?_; rintro e x1 ⟨rfl, hbx1⟩)
      go_roundw
      case rel => exact ⟨k + 1, by omega, by go_num, by rw [N1.out], by rw [N2.out], by rw [N3.out], (by repeat (first | assumption | exact Below.refl _ _ | refine kept_drew ?_ | refine kept_drewN ?_ _ | refine kept_alloc ?_ _ | refine kept_set ?_ ?_ _ | (simp; done) | (simp; omega) | refine kept_trans ?_ (by assumption)))⟩
      case measure => simp [intOf]; omega
    · obtain rfl : k = m := by omega
      have bp := SP.out k hk
      have bb := SB.out k hk
      have bk := SK.out k hk
      have c0 := cell_keep hb c0
      have c1 := cell_keep hb c1
      have c2 := cell_keep hb c2
      rcases FC.out with ⟨h1, HV⟩ | ⟨h1, h2, HV⟩ | ⟨h1, h2, HV⟩
      all_goals
        go_wp2_with fail
        go_ret
        exact ⟨by rw [HV.out]; rfl, hb⟩

/-- Whether groups fit in a car. -/
def fcV (n m : Nat) (a : Nat → ByteArray) (b c d z : Nat → Int) (p q r : Int) : Bool := vGroups n a b c d && vRoom p q r && rises m z 0 ((n : Int) - 1) && fitAll b c d z m p q r
theorem fcV_bad {n m : Nat} {a : Nat → ByteArray} {b c d z : Nat → Int} {p q r : Int} (h : vGroups n a b c d = false) : fcV n m a b c d z p q r = false := by unfold fcV; rw [h]; rfl
theorem fcV_room {n m : Nat} {a : Nat → ByteArray} {b c d z : Nat → Int} {p q r : Int} (h : vRoom p q r = false) : fcV n m a b c d z p q r = false := by unfold fcV; rw [h]; simp
theorem fcV_rise {n m : Nat} {a : Nat → ByteArray} {b c d z : Nat → Int} {p q r : Int} (h : rises m z 0 ((n : Int) - 1) = false) : fcV n m a b c d z p q r = false := by unfold fcV; rw [h]; simp
theorem fcV_ok {n m : Nat} {a : Nat → ByteArray} {b c d z : Nat → Int} {p q r : Int} (h : vGroups n a b c d = true) (h1 : vRoom p q r = true) (h2 : rises m z 0 ((n : Int) - 1) = true) : fcV n m a b c d z p q r = fitAll b c d z m p q r := by unfold fcV; rw [h, h1, h2]; rfl
attribute [irreducible] fcV fitAll

/-- Numbers that rise and are indices of a list are not more than its length. -/
theorem rises_few {m : Nat} {n : Int} {z : Nat → Int} (h : ∀ i, i < m → riseAt z 0 (n - 1) i = true) : ∀ i, i < m → (i : Int) ≤ z i := by
  intro i
  induction i with
  | zero => intro h0; have := (riseAt_out (h 0 h0)).1; omega
  | succ i ih =>
    intro h1
    have h2 := ih (by omega)
    have h3 := (riseAt_out (h (i + 1) h1)).2 (by omega)
    simp only [Nat.add_sub_cancel] at h3
    omega

set_option maxHeartbeats 1600000 in
theorem s_FitsCar (v v1 : Value) (n m : Nat) (a : Nat → ByteArray) (b c d z : Nat → Int) (p q r : Int) (W : World) (hs : Sl W v 4 n (gc a b c d)) (hs1 : Sl W v1 1 m (ic z)) (hx : Hid (∀ i, i < n → ((a i).size : Int) ≤ 1048576)) :
    Calls Try.prog 23 #[v, v1, .agg #[.int .i64 p, .int .i64 q, .int .i64 r]] W fun e W' => e = .returned (.bool (fcV n m a b c d z p q r)) ∧ Below W.heap.size W W' := by
  have KA := kept_alloc (Below.refl W.heap.size W) (.cells #[.int .i64 p, .int .i64 q, .int .i64 r] 30)
  have HSA := hs.kept KA
  have HSB := hs1.kept KA
  have q0 : (W.alloc (.cells #[.int .i64 p, .int .i64 q, .int .i64 r] 30)).cell? ⟨W.heap.size, 0, none⟩ = some (.int .i64 p) := boxed_at rfl rfl
  have q1 : (W.alloc (.cells #[.int .i64 p, .int .i64 q, .int .i64 r] 30)).cell? ⟨W.heap.size, 1, none⟩ = some (.int .i64 q) := boxed_at rfl rfl
  have q2 : (W.alloc (.cells #[.int .i64 p, .int .i64 q, .int .i64 r] 30)).cell? ⟨W.heap.size, 2, none⟩ = some (.int .i64 r) := boxed_at rfl rfl
  have HV := Lib.hid (fun w h => s_listGroup v n a b c d w h hx)
  have HP := Lib.hid (fun w c0 c1 c2 => s_l17Room p q r W.heap.size w c0 c1 c2)
  have HR := Lib.hid (fun w h => s_l00Rises v1 m z 0 ((n : Int) - 1) w h)
  obtain ⟨hn, ao, cap, rfl, -⟩ := id hs
  cases hv : vGroups n a b c d
  · rw [hv] at HV
    have HF := Lib.hid (fcV_bad (m := m) (z := z) (p := p) (q := q) (r := r) hv)
    go_enter Try.func23, Try.ntmps23
    go_wp2_with (go_at_call 59; refine (HV.out _ HSA).mono ?_; rintro e w1 ⟨rfl, hb1⟩)
    go_ret
    exact ⟨by rw [HF.out]; rfl, kept_trans KA hb1⟩
  rw [hv] at HV
  have HO := Lib.hid (vGroups_out hv)
  have OK := Lib.hid (fun h1 h2 => fcV_ok (m := m) (z := z) (p := p) (q := q) (r := r) hv h1 h2)
  clear hv
  cases hv1 : vRoom p q r
  · rw [hv1] at HP
    have HF := Lib.hid (fcV_room (n := n) (m := m) (a := a) (b := b) (c := c) (d := d) (z := z) hv1)
    go_enter Try.func23, Try.ntmps23
    go_wp2_with (first | (go_at_call 64; refine (HP.out _ (cell_keep hb1 q0) (cell_keep hb1 q1) (cell_keep hb1 q2)).mono ?_; rintro e w2 ⟨rfl, rfl⟩) | (go_at_call 59; refine (HV.out _ HSA).mono ?_; rintro e w1 ⟨rfl, hb1⟩))
    go_ret
    exact ⟨by rw [HF.out]; rfl, kept_trans KA hb1⟩
  rw [hv1] at HP
  have OK := Lib.hid (fun h2 => OK.out hv1 h2)
  clear hv1
  cases hv2 : rises m z 0 ((n : Int) - 1)
  · rw [hv2] at HR
    have HF := Lib.hid (fcV_rise (a := a) (b := b) (c := c) (d := d) (p := p) (q := q) (r := r) hv2)
    go_enter Try.func23, Try.ntmps23
    go_wp2_with (first | (go_at_call 68; refine (HR.out _ (HSB.kept hb1)).mono ?_; rintro e w3 ⟨rfl, hb3⟩) | (go_at_call 64; refine (HP.out _ (cell_keep hb1 q0) (cell_keep hb1 q1) (cell_keep hb1 q2)).mono ?_; rintro e w2 ⟨rfl, rfl⟩) | (go_at_call 59; refine (HV.out _ HSA).mono ?_; rintro e w1 ⟨rfl, hb1⟩))
    go_ret
    exact ⟨by rw [HF.out]; rfl, kept_trans KA (kept_trans hb1 hb3)⟩
  rw [hv2] at HR
  have OK := Lib.hid (OK.out hv2)
  have HO2 := HO.out
  have FEW := rises_few (rises_out hv2)
  have HI := rises_in hv2
  have hm : m ≤ 1048576 := by
    by_cases h : m ≤ 1048576
    · exact h
    · have f1 := FEW 1048576 (by omega)
      have f2 := HI 1048576 (by omega)
      have := HO2.1
      omega
  have HZ : Hid (∀ i, i < m → 0 ≤ z i ∧ z i < n) := fun i hi => by have := HI i hi; omega
  have HB : Hid (∀ i, i < n → (1 ≤ b i ∧ b i ≤ 200) ∧ (0 ≤ c i ∧ c i ≤ 40) ∧ (0 ≤ d i ∧ d i ≤ 100000)) := fun i hi => (vGr_out (HO2.2 i hi)).2
  have HT := Lib.hid (fun w u h1 h2 c0 c1 c2 => s_l17Fits u v1 n m a b c d z p q r W.heap.size w h1 h2 hm HZ HB c0 c1 c2)
  clear hv2 HO2 FEW HI
  go_enter Try.func23, Try.ntmps23
  go_wp2_with (first | (go_at_call 69; refine (HT.out _ _ ((HSA.kept hb1).kept hb3) ((HSB.kept hb1).kept hb3) (cell_keep hb3 (cell_keep hb1 q0)) (cell_keep hb3 (cell_keep hb1 q1)) (cell_keep hb3 (cell_keep hb1 q2))).mono ?_; rintro e w4 ⟨rfl, hb4⟩) | (go_at_call 68; refine (HR.out _ (HSB.kept hb1)).mono ?_; rintro e w3 ⟨rfl, hb3⟩) | (go_at_call 64; refine (HP.out _ (cell_keep hb1 q0) (cell_keep hb1 q1) (cell_keep hb1 q2)).mono ?_; rintro e w2 ⟨rfl, rfl⟩) | (go_at_call 59; refine (HV.out _ HSA).mono ?_; rintro e w1 ⟨rfl, hb1⟩))
  go_ret
  exact ⟨by rw [OK.out]; rfl, kept_trans KA (kept_trans (kept_trans hb1 hb3) hb4)⟩

end Go.Proofs.Ytfnollbeeehpnaa
