/- The least water with which the pull is great enough. -/
import Derived.Test.YtmgbbfbalmlpiaaGreatDoorStores
namespace Go.Proofs.YtmgbbfbalmlpiaaGreatDoor
open Go.RowKit Go.Deep
set_option linter.unusedVariables false

theorem rnd_mono {a b c : Int} (hc : 1 ≤ c) (h : a ≤ b) : rnd a c ≤ rnd b c := by
  have e : ∀ x, rnd x c = if x < 0 then -((c - 2 * x) / (2 * c)) else (2 * x + c) / (2 * c) := fun x => by unfold rnd; rfl
  rw [e a, e b]
  have h2 : (0 : Int) < 2 * c := by omega
  split
  · rename_i ha
    split
    · have := Int.ediv_le_ediv h2 (show c - 2 * b ≤ c - 2 * a by omega)
      omega
    · have h3 := Int.ediv_nonneg (show 0 ≤ c - 2 * a by omega) (show 0 ≤ 2 * c by omega)
      have h4 := Int.ediv_nonneg (show 0 ≤ 2 * b + c by omega) (show 0 ≤ 2 * c by omega)
      omega
  · rename_i ha
    rw [if_neg (by omega)]
    exact Int.ediv_le_ediv h2 (by omega)
theorem pullI_mono {a b bt rp gr : Int} (hg : 1 ≤ gr) (h : a ≤ b) : pullI a bt rp gr ≤ pullI b bt rp gr := by
  unfold pullI
  refine rnd_mono (by omega) ?_
  have h1 := Int.mul_le_mul_of_nonneg_right (show a - bt - rp ≤ b - bt - rp by omega) (show 0 ≤ gr by omega)
  omega
/-- Water j is enough. -/
def wtP (tp bt rp gr nd : Int) : Nat → Bool := fun j => decide (nd ≤ pullI (tp + j) bt rp gr)
theorem wtP_mono {tp bt rp gr nd : Int} (hg : 1 ≤ gr) {i j : Nat} (h : i ≤ j) (hi : wtP tp bt rp gr nd i = true) : wtP tp bt rp gr nd j = true := by
  simp only [wtP, decide_eq_true_eq] at *
  have := pullI_mono (bt := bt) (rp := rp) hg (show tp + (i : Int) ≤ tp + (j : Int) by omega)
  omega
theorem wtP_at (tp bt rp gr nd m : Int) (h : 0 ≤ m) : wtP tp bt rp gr nd m.toNat = decide (nd ≤ pullI (tp + m) bt rp gr) := by unfold wtP; rw [Int.toNat_of_nonneg h]
/-- The first of them up to the tank, or one more. -/
def wtF (tk tp bt rp gr nd : Int) : Int := firstTo (wtP tp bt rp gr nd) (tk + 1).toNat
theorem first_is {P : Nat → Bool} {tk l : Int} (h0 : 0 ≤ l) (h1 : l ≤ tk + 1) (hno : ∀ i : Nat, (i : Int) < l → P i = false) (hy : l ≤ tk → P l.toNat = true) : (firstTo P (tk + 1).toNat : Int) = l := by
  rw [firstTo_eq (k := l.toNat) (by omega) (fun i hi => hno i (by omega)) (fun h => hy (by omega))]
  omega
theorem wtF_bd (tk tp bt rp gr nd : Int) (h : 0 ≤ tk) : 0 ≤ wtF tk tp bt rp gr nd ∧ wtF tk tp bt rp gr nd ≤ tk + 1 := by
  have := firstTo_le (wtP tp bt rp gr nd) (tk + 1).toNat
  unfold wtF; omega
attribute [irreducible] wtP

set_option maxHeartbeats 1000000 in
theorem i_least (g : FuncId) (caps : Array Value) (P : Nat → Bool) (tk : Int) (W : World) (ht : 0 ≤ tk ∧ tk ≤ 20000) (eg : ∀ args w, (callFunc g args).run Tryz.prog w = .ok (.enter g args) w)
    (HP : Hid (∀ m w, 0 ≤ m → m ≤ tk → Below W.heap.size W w → Calls Tryz.prog g (#[.int .i64 m] ++ caps) w fun e w' => e = .returned (.bool (P m.toNat)) ∧ Below w.heap.size w w'))
    (HM : Hid (∀ i j : Nat, i ≤ j → P i = true → P j = true)) :
    Calls Tryz.prog 43 #[.int .i64 0, .int .i64 tk, .func (.func g) #[] caps] W fun e W' => e = .returned (.int .i64 (firstTo P (tk + 1).toNat : Int)) ∧ Below W.heap.size W W' := by
  obtain ⟨t0, t1⟩ := ht
  have HF := Lib.hid (fun l => first_is (P := P) (tk := tk) (l := l))
  generalize firstTo P (tk + 1).toNat = F at *
  go_enter Tryz.func43, Tryz.ntmps43
  go_wp2
  go_loopw [0, 7] (fun a b wr => ∃ lo en : Int, 0 ≤ lo ∧ lo ≤ en ∧ en ≤ tk + 1 ∧ a = .int .i64 lo ∧ b = .int .i64 en ∧ Hid (∀ i : Nat, (i : Int) < lo → P i = false) ∧ Hid (en ≤ tk → P en.toNat = true) ∧ Below W.heap.size W wr) (fun a b _ => (intOf b - intOf a).toNat)
  case atStart => exact ⟨0, tk + 1, by omega, by omega, by omega, rfl, rfl, fun i hi => absurd hi (by omega), fun h => absurd h (by omega), Below.refl _ _⟩
  case round =>
    obtain ⟨lo, en, h0, h1, h2, rfl, rfl, hno, hy, hb⟩ := hrel
    rcases (show lo < en ∨ en ≤ lo by omega) with hlt | hge
    · have hm1 : lo ≤ (lo + en) / 2 := by omega
      have hm2 : (lo + en) / 2 < en := by omega
      have hcall := Lib.hid (HP.out ((lo + en) / 2) wr (by omega) (by omega) hb)
      have e3 : (lo + en).tdiv 2 = (lo + en) / 2 := Int.tdiv_eq_ediv_of_nonneg (by omega)
      cases hp : P ((lo + en) / 2).toNat
      · have hN : Hid (∀ i : Nat, (i : Int) < (lo + en) / 2 + 1 → P i = false) := fun i hi => by
          cases hpi : P i
          · rfl
          · have := HM.out i ((lo + en) / 2).toNat (by omega) hpi
            rw [hp] at this; cases this
        rw [hp] at hcall
        have h5 : (lo + en) / 2 + 1 ≤ en := by omega
        have h6 : (en - ((lo + en) / 2 + 1)).toNat < (en - lo).toNat := by omega
        clear hp HM HP HF
        go_wp2_with fail
        refine hcall.out.mono ?_
        rintro e w1 ⟨rfl, hb1⟩
        clear hcall
        go_wp2_with fail
        go_roundw
        case rel => exact ⟨(lo + en) / 2 + 1, en, by omega, h5, h2, rfl, rfl, hN, hy, kept_trans hb hb1⟩
        case measure => simpa [intOf] using h6
      · have hN : Hid ((lo + en) / 2 ≤ tk → P ((lo + en) / 2).toNat = true) := fun _ => hp
        rw [hp] at hcall
        have h6 : ((lo + en) / 2 - lo).toNat < (en - lo).toNat := by omega
        have h7 : (lo + en) / 2 ≤ tk + 1 := by omega
        clear hp HM HP HF
        go_wp2_with fail
        refine hcall.out.mono ?_
        rintro e w1 ⟨rfl, hb1⟩
        clear hcall
        go_wp2_with fail
        go_roundw
        case rel => exact ⟨lo, (lo + en) / 2, h0, hm1, h7, rfl, rfl, hno, hN, kept_trans hb hb1⟩
        case measure => simpa [intOf] using h6
    · obtain rfl : en = lo := by omega
      have hF := Lib.hid (HF.out en h0 h2 hno.out hy.out)
      go_wp2
      go_ret
      exact ⟨by rw [hF.out]; rfl, hb⟩

theorem i_waterFor1 (m tp bt rp gr nd : Int) (b1 b2 b3 b4 b5 : Nat) (W : World) (c1 : W.cell? ⟨b1, 0, none⟩ = some (.int .i64 tp)) (c2 : W.cell? ⟨b2, 0, none⟩ = some (.int .i64 bt)) (c3 : W.cell? ⟨b3, 0, none⟩ = some (.int .i64 rp)) (c4 : W.cell? ⟨b4, 0, none⟩ = some (.int .i64 gr)) (c5 : W.cell? ⟨b5, 0, none⟩ = some (.int .i64 nd))
    (hm : 0 ≤ m ∧ m ≤ 20000) (h1 : 0 ≤ tp ∧ tp ≤ 100000) (h2 : 0 ≤ bt ∧ bt ≤ 100000) (h3 : 0 ≤ rp ∧ rp ≤ 100000) (h4 : 1 ≤ gr ∧ gr ≤ 900) :
    Calls Tryz.prog 44 #[.int .i64 m, .pointer (some ⟨b1, 0, none⟩), .pointer (some ⟨b2, 0, none⟩), .pointer (some ⟨b3, 0, none⟩), .pointer (some ⟨b4, 0, none⟩), .pointer (some ⟨b5, 0, none⟩)] W fun e W' => e = .returned (.bool (decide (nd ≤ pullI (tp + m) bt rp gr))) ∧ Below W.heap.size W W' := by
  obtain ⟨hm0, hm1⟩ := hm
  obtain ⟨h10, h11⟩ := h1
  obtain ⟨h20, h21⟩ := h2
  obtain ⟨h30, h31⟩ := h3
  obtain ⟨h40, h41⟩ := h4
  have k0 := cell_regrown c1
  have k1 := cell_regrown c2
  have k2 := cell_regrown c3
  have k3 := cell_regrown c4
  have k4 := cell_regrown c5
  have e1 : IntKind.i64.wrap (tp + m) = tp + m := IntWalk.i64_in _ (by omega)
  clear c1 c2 c3 c4 c5
  go_enter Tryz.func44, Tryz.ntmps44
  go_wp2_with fail
  refine wp_region_quiet_below (by kernel_rfl) (by kernel_rfl) ?_
  repeat (go_big_quiet_step ((first | (go_at_call 26; exact Calls.regrown_of (i_pullDown _ _ _ _ _ (by omega))))))
  refine wpQuiet_nil ?_
  intro w2 hw2
  have hk := below_of_regrown hw2
  clear hw2 k0 k1 k2 k3 k4
  obtain ⟨hc, hf⟩ := bcell hk
  have hz := hk.size
  try simp at hz
  clear e1
  go_wp2_with fail
  go_ret
  exact ⟨rfl, hk⟩

set_option maxHeartbeats 1000000 in
theorem i_waterFor (t r s p tp bt rp gr nd : Int) (W : World) (ht : 0 ≤ t ∧ t ≤ 20000) (h1 : 0 ≤ tp ∧ tp ≤ 100000) (h2 : 0 ≤ bt ∧ bt ≤ 100000) (h3 : 0 ≤ rp ∧ rp ≤ 100000) (h4 : 1 ≤ gr ∧ gr ≤ 900) :
    Calls Tryz.prog 23 #[.agg #[.int .i64 t, .int .i64 r, .int .i64 s, .int .i64 p], .int .i64 tp, .int .i64 bt, .int .i64 rp, .int .i64 gr, .int .i64 nd] W fun e W' => e = .returned (.tuple #[.int .i64 (wtF t tp bt rp gr nd), .bool (decide (wtF t tp bt rp gr nd ≤ t))]) ∧ Below W.heap.size W W' := by
  have c00 : Hid (((((((W.alloc (.cells #[.int .i64 t, .int .i64 r, .int .i64 s, .int .i64 p] 25)).alloc (.cells #[.int .i64 tp] 2)).alloc (.cells #[.int .i64 bt] 2)).alloc (.cells #[.int .i64 rp] 2)).alloc (.cells #[.int .i64 gr] 2)).alloc (.cells #[.int .i64 nd] 2)).cell? ⟨W.heap.size, 0, none⟩ = some (.int .i64 t)) := cell_keep (kept_alloc (kept_alloc (kept_alloc (kept_alloc (kept_alloc (Below.refl _ _) _) _) _) _) _) (boxed_at rfl rfl)
  have c10 : Hid (((((((W.alloc (.cells #[.int .i64 t, .int .i64 r, .int .i64 s, .int .i64 p] 25)).alloc (.cells #[.int .i64 tp] 2)).alloc (.cells #[.int .i64 bt] 2)).alloc (.cells #[.int .i64 rp] 2)).alloc (.cells #[.int .i64 gr] 2)).alloc (.cells #[.int .i64 nd] 2)).cell? ⟨W.heap.size + 1, 0, none⟩ = some (.int .i64 tp)) := cell_keep (kept_alloc (kept_alloc (kept_alloc (kept_alloc (Below.refl _ _) _) _) _) _) (boxed_at (by simp) rfl)
  have c20 : Hid (((((((W.alloc (.cells #[.int .i64 t, .int .i64 r, .int .i64 s, .int .i64 p] 25)).alloc (.cells #[.int .i64 tp] 2)).alloc (.cells #[.int .i64 bt] 2)).alloc (.cells #[.int .i64 rp] 2)).alloc (.cells #[.int .i64 gr] 2)).alloc (.cells #[.int .i64 nd] 2)).cell? ⟨W.heap.size + 2, 0, none⟩ = some (.int .i64 bt)) := cell_keep (kept_alloc (kept_alloc (kept_alloc (Below.refl _ _) _) _) _) (boxed_at (by simp) rfl)
  have c30 : Hid (((((((W.alloc (.cells #[.int .i64 t, .int .i64 r, .int .i64 s, .int .i64 p] 25)).alloc (.cells #[.int .i64 tp] 2)).alloc (.cells #[.int .i64 bt] 2)).alloc (.cells #[.int .i64 rp] 2)).alloc (.cells #[.int .i64 gr] 2)).alloc (.cells #[.int .i64 nd] 2)).cell? ⟨W.heap.size + 3, 0, none⟩ = some (.int .i64 rp)) := cell_keep (kept_alloc (kept_alloc (Below.refl _ _) _) _) (boxed_at (by simp) rfl)
  have c40 : Hid (((((((W.alloc (.cells #[.int .i64 t, .int .i64 r, .int .i64 s, .int .i64 p] 25)).alloc (.cells #[.int .i64 tp] 2)).alloc (.cells #[.int .i64 bt] 2)).alloc (.cells #[.int .i64 rp] 2)).alloc (.cells #[.int .i64 gr] 2)).alloc (.cells #[.int .i64 nd] 2)).cell? ⟨W.heap.size + 4, 0, none⟩ = some (.int .i64 gr)) := cell_keep (kept_alloc (Below.refl _ _) _) (boxed_at (by simp) rfl)
  have c50 : Hid (((((((W.alloc (.cells #[.int .i64 t, .int .i64 r, .int .i64 s, .int .i64 p] 25)).alloc (.cells #[.int .i64 tp] 2)).alloc (.cells #[.int .i64 bt] 2)).alloc (.cells #[.int .i64 rp] 2)).alloc (.cells #[.int .i64 gr] 2)).alloc (.cells #[.int .i64 nd] 2)).cell? ⟨W.heap.size + 5, 0, none⟩ = some (.int .i64 nd)) := boxed_at (by simp) rfl
  have HB := wtF_bd t tp bt rp gr nd ht.1
  have HL : Hid (Calls Tryz.prog 43 #[.int .i64 0, .int .i64 t, .func (.func 44) #[] #[.pointer (some ⟨W.heap.size + 1, 0, none⟩), .pointer (some ⟨W.heap.size + 2, 0, none⟩), .pointer (some ⟨W.heap.size + 3, 0, none⟩), .pointer (some ⟨W.heap.size + 4, 0, none⟩), .pointer (some ⟨W.heap.size + 5, 0, none⟩)]] ((((((W.alloc (.cells #[.int .i64 t, .int .i64 r, .int .i64 s, .int .i64 p] 25)).alloc (.cells #[.int .i64 tp] 2)).alloc (.cells #[.int .i64 bt] 2)).alloc (.cells #[.int .i64 rp] 2)).alloc (.cells #[.int .i64 gr] 2)).alloc (.cells #[.int .i64 nd] 2)) fun e W' => e = .returned (.int .i64 (wtF t tp bt rp gr nd)) ∧ Below ((((((W.alloc (.cells #[.int .i64 t, .int .i64 r, .int .i64 s, .int .i64 p] 25)).alloc (.cells #[.int .i64 tp] 2)).alloc (.cells #[.int .i64 bt] 2)).alloc (.cells #[.int .i64 rp] 2)).alloc (.cells #[.int .i64 gr] 2)).alloc (.cells #[.int .i64 nd] 2)).heap.size ((((((W.alloc (.cells #[.int .i64 t, .int .i64 r, .int .i64 s, .int .i64 p] 25)).alloc (.cells #[.int .i64 tp] 2)).alloc (.cells #[.int .i64 bt] 2)).alloc (.cells #[.int .i64 rp] 2)).alloc (.cells #[.int .i64 gr] 2)).alloc (.cells #[.int .i64 nd] 2)) W') :=
    i_least 44 _ (wtP tp bt rp gr nd) t _ ht (enters Tryz.func44 (by kernel_rfl) rfl)
      (fun m w hm0 hm1 hb => by
        rw [wtP_at _ _ _ _ _ _ hm0]
        exact i_waterFor1 m tp bt rp gr nd _ _ _ _ _ w (cell_keep hb c10.out) (cell_keep hb c20.out) (cell_keep hb c30.out) (cell_keep hb c40.out) (cell_keep hb c50.out) ⟨hm0, by omega⟩ h1 h2 h3 h4)
      (fun i j h hi => wtP_mono h4.1 h hi)
  generalize wtF t tp bt rp gr nd = F at *
  clear c10 c20 c30 c40 c50 h1 h2 h3 h4
  go_enter Tryz.func23, Tryz.ntmps23
  go_wp2_with (go_at_call 43; refine HL.out.mono ?_; rintro e w1 ⟨rfl, hb1⟩; have q0 := cell_keep hb1 c00.out)
  go_quiet (fail)
  go_wp2_with fail
  go_ret2
  exact ⟨rfl, kept_drewN (kept_trans (by repeat (first | exact Below.refl _ _ | refine kept_alloc ?_ _)) hb1) _⟩

set_option maxHeartbeats 1000000 in
theorem s_l16Water (bx : Nat) (t tp bt rp gr nd : Int) (W : World) (c0 : W.cell? ⟨bx, 0, none⟩ = some (.int .i64 t)) (ht : 0 ≤ t ∧ t ≤ 20000) (h1 : 0 ≤ tp ∧ tp ≤ 100000) (h2 : 0 ≤ bt ∧ bt ≤ 100000) (h3 : 0 ≤ rp ∧ rp ≤ 100000) (h4 : 1 ≤ gr ∧ gr ≤ 900) :
    Calls Tryz.prog 33 #[.pointer (some ⟨bx, 0, none⟩), .int .i64 tp, .int .i64 bt, .int .i64 rp, .int .i64 gr, .int .i64 nd] W fun e W' => e = .returned (.int .i64 (if wtF t tp bt rp gr nd ≤ t then wtF t tp bt rp gr nd else -1)) ∧ W = W' := by
  have HM : Hid (∀ i j : Nat, i ≤ j → wtP tp bt rp gr nd i = true → wtP tp bt rp gr nd j = true) := fun i j h hi => wtP_mono h4.1 h hi
  have HA := Lib.hid (fun m => wtP_at tp bt rp gr nd m)
  unfold wtF
  generalize wtP tp bt rp gr nd = P at *
  have HF := Lib.hid (fun l => first_is (P := P) (tk := t) (l := l))
  generalize firstTo P (t + 1).toNat = F at *
  obtain ⟨t0, t1⟩ := ht
  obtain ⟨h10, h11⟩ := h1
  obtain ⟨h20, h21⟩ := h2
  obtain ⟨h30, h31⟩ := h3
  obtain ⟨h40, h41⟩ := h4
  have HRY : Hid ((F : Int) ≤ t → (if (F : Int) ≤ t then (F : Int) else -1) = F) := fun h => if_pos h
  have HRN : Hid (t < (F : Int) → (if (F : Int) ≤ t then (F : Int) else -1) = -1) := fun h => if_neg (by omega)
  generalize (if (F : Int) ≤ t then (F : Int) else -1) = R at *
  go_enter Tryz.func33, Tryz.ntmps33
  go_wp2
  go_loop [13, 14] (fun a b => ∃ lo hi : Int, -1 ≤ lo ∧ lo < hi ∧ hi ≤ t + 1 ∧ a = .int .i64 lo ∧ b = .int .i64 hi ∧ Hid (∀ i : Nat, (i : Int) < lo + 1 → P i = false) ∧ Hid (hi ≤ t → P hi.toNat = true)) (fun a b => (intOf b - intOf a).toNat)
  case atStart => exact ⟨-1, t + 1, by omega, by omega, by omega, rfl, rfl, fun i hi => absurd hi (by omega), fun h => absurd h (by omega)⟩
  case round =>
    obtain ⟨lo, hi, h0, h1, h2, rfl, rfl, hno, hy⟩ := hrel
    rcases (show lo + 1 < hi ∨ hi ≤ lo + 1 by omega) with hlt | hge
    · have hm1 : lo < (lo + hi) / 2 := by omega
      have hm2 : (lo + hi) / 2 < hi := by omega
      have e3 : (lo + hi).tdiv 2 = (lo + hi) / 2 := Int.tdiv_eq_ediv_of_nonneg (by omega)
      have hgt : 1 < hi - lo := by omega
      have hA := HA.out ((lo + hi) / 2) (by omega)
      have hx := Lib.hid (fun w => s_l16Pull (tp + (lo + hi) / 2) bt rp gr w (by omega))
      generalize pullI (tp + (lo + hi) / 2) bt rp gr = x at *
      rcases (show nd ≤ x ∨ x < nd by omega) with hc | hc
      · have hp : P ((lo + hi) / 2).toNat = true := by rw [hA]; simp; omega
        have hN : Hid ((lo + hi) / 2 ≤ t → P ((lo + hi) / 2).toNat = true) := fun _ => hp
        have h6 : ((lo + hi) / 2 - lo).toNat < (hi - lo).toNat := by omega
        have h7 : (lo + hi) / 2 ≤ t + 1 := by omega
        clear hp HM HF hA HA
        go_wp2_with (go_at_call 48; refine (hx.out _).mono ?_; rintro e w' ⟨rfl, rfl⟩)
        go_round
        case rel => exact ⟨lo, (lo + hi) / 2, h0, hm1, h7, rfl, rfl, hno, hN⟩
        case measure => simpa [intOf] using h6
      · have hp : P ((lo + hi) / 2).toNat = false := by rw [hA]; simp; omega
        have hN : Hid (∀ i : Nat, (i : Int) < (lo + hi) / 2 + 1 → P i = false) := fun i hi2 => by
          cases hpi : P i
          · rfl
          · have := HM.out i ((lo + hi) / 2).toNat (by omega) hpi
            rw [hp] at this; cases this
        have h6 : (hi - (lo + hi) / 2).toNat < (hi - lo).toNat := by omega
        have h7 : -1 ≤ (lo + hi) / 2 := by omega
        clear hp HM HF hA HA
        go_wp2_with (go_at_call 48; refine (hx.out _).mono ?_; rintro e w' ⟨rfl, rfl⟩)
        go_round
        case rel => exact ⟨(lo + hi) / 2, hi, h7, hm2, h2, rfl, rfl, hN, hy⟩
        case measure => simpa [intOf] using h6
    · obtain rfl : hi = lo + 1 := by omega
      have hF := HF.out (lo + 1) (by omega) h2 hno.out hy.out
      rcases (show lo + 1 ≤ t ∨ t < lo + 1 by omega) with hc | hc
      · have hR := Lib.hid ((HRY.out (by omega)).trans hF)
        clear hF
        go_wp2
        go_ret
        exact ⟨by rw [hR.out]; rfl, rfl⟩
      · have hR := Lib.hid (HRN.out (by omega))
        clear hF
        go_wp2
        go_ret
        exact ⟨by rw [hR.out]; rfl, rfl⟩

end Go.Proofs.YtmgbbfbalmlpiaaGreatDoor
