/- The least water for a pull: the functions themselves. -/
import Derived.Test.YtmgbbfbalmlpiaaGreatDoorWater
namespace Go.Proofs.YtmgbbfbalmlpiaaGreatDoor
open Go.RowKit Go.Deep
set_option linter.unusedVariables false

theorem Sl.pair_at {w : World} {a b : Int} {t : TypeId} {k : Nat} (hk : w.heap.size = k) : Sl (w.alloc (.cells #[.int .i64 a, .int .i64 b] t)) (.slice (some ⟨k, 0, none⟩) 2 2) 1 2 (ic (pairZ a b)) := by subst hk; exact Sl.pair
theorem Sl.pair_on {w w' : World} {a b : Int} {t : TypeId} {k : Nat} (hb : Below (w.alloc (.cells #[.int .i64 a, .int .i64 b] t)).heap.size (w.alloc (.cells #[.int .i64 a, .int .i64 b] t)) w') (hk : w.heap.size = k) : Sl w' (.slice (some ⟨k, 0, none⟩) 2 2) 1 2 (ic (pairZ a b)) := (Sl.pair_at hk).kept hb
theorem i_areLoads2 (a b rp gr : Int) (v : Value) (w : World) (hs : Sl w v 1 2 (ic (pairZ a b))) : Calls Tryz.prog 21 #[.int .i64 rp, .int .i64 gr, v] w fun e W' => e = .returned (.bool (inB a 0 100000 && vThree b rp gr)) ∧ Below w.heap.size w W' := by
  have hA := i_areLoads rp gr _ 2 (pairZ a b) w hs
  have ea : (allTo (fun i => inB (pairZ a b i) 0 100000) 2 && inB rp 0 100000 && inB gr 1 900) = (inB a 0 100000 && vThree b rp gr) := by
    show ((true && inB a 0 100000) && inB b 0 100000 && inB rp 0 100000 && inB gr 1 900) = _
    unfold vThree
    simp [Bool.and_assoc]
  rw [ea] at hA
  exact hA

def wfR (t F : Int) : Int × Int := if F ≤ t then (F, 0) else (0, 3)
theorem wfR_yes {t F : Int} (h : F ≤ t) : wfR t F = (F, 0) := if_pos h
theorem wfR_no {t F : Int} (h : t < F) : wfR t F = (0, 3) := if_neg (by omega)
attribute [irreducible] wfR
def wfor (t r s p tp bt rp gr nd : Int) : Int × Int := if askCode (vBasin t r s p) ((inB tp 0 100000 && vThree bt rp gr) && inB nd 0 1000000) = 0 then wfR t (wtF t tp bt rp gr nd) else (0, askCode (vBasin t r s p) ((inB tp 0 100000 && vThree bt rp gr) && inB nd 0 1000000))
theorem wfor_no {t r s p tp bt rp gr nd : Int} {a b c : Bool} (h1 : vBasin t r s p = a) (h2 : (inB tp 0 100000 && vThree bt rp gr) = b) (h3 : inB nd 0 1000000 = c) (h : (a && b && c) = false) : wfor t r s p tp bt rp gr nd = (0, askCode a (b && c)) := by
  unfold wfor; rw [h1, h2, h3]; revert h; cases a <;> cases b <;> cases c <;> simp [askCode]
theorem wfor_yes {t r s p tp bt rp gr nd : Int} (h1 : vBasin t r s p = true) (h2 : (inB tp 0 100000 && vThree bt rp gr) = true) (h3 : inB nd 0 1000000 = true) : wfor t r s p tp bt rp gr nd = wfR t (wtF t tp bt rp gr nd) := by
  unfold wfor; rw [h1, h2, h3, if_pos (by rfl)]
theorem loads_out {tp bt rp gr : Int} (h : (inB tp 0 100000 && vThree bt rp gr) = true) : (0 ≤ tp ∧ tp ≤ 100000) ∧ (0 ≤ bt ∧ bt ≤ 100000) ∧ (0 ≤ rp ∧ rp ≤ 100000) ∧ (1 ≤ gr ∧ gr ≤ 900) := by
  simp only [vThree, Bool.and_eq_true, inB_iff] at h; omega
attribute [irreducible] wfor

set_option maxHeartbeats 2000000 in
theorem i_WaterFor (t r s p tp bt rp gr nd : Int) (W : World) : Calls Tryz.prog 6 #[.agg #[.int .i64 t, .int .i64 r, .int .i64 s, .int .i64 p], .int .i64 tp, .int .i64 bt, .int .i64 rp, .int .i64 gr, .int .i64 nd] W fun e W' => e = .returned (.tuple #[.int .i64 (wfor t r s p tp bt rp gr nd).1, .int .i64 (wfor t r s p tp bt rp gr nd).2]) ∧ Below W.heap.size W W' := by
  have HAL := Lib.hid (fun v w hs => i_areLoads2 tp bt rp gr v w hs)
  have HBS := Lib.hid (fun f w => i_basined t r s p f w)
  have HWF := Lib.hid (i_waterFor t r s p tp bt rp gr nd)
  have q0 : (W.alloc (.cells #[.int .i64 t, .int .i64 r, .int .i64 s, .int .i64 p] 25)).cell? ⟨W.heap.size, 0, none⟩ = some (.int .i64 t) := boxed_at rfl rfl
  have q1 : (W.alloc (.cells #[.int .i64 t, .int .i64 r, .int .i64 s, .int .i64 p] 25)).cell? ⟨W.heap.size, 1, none⟩ = some (.int .i64 r) := boxed_at rfl rfl
  have q2 : (W.alloc (.cells #[.int .i64 t, .int .i64 r, .int .i64 s, .int .i64 p] 25)).cell? ⟨W.heap.size, 2, none⟩ = some (.int .i64 s) := boxed_at rfl rfl
  have q3 : (W.alloc (.cells #[.int .i64 t, .int .i64 r, .int .i64 s, .int .i64 p] 25)).cell? ⟨W.heap.size, 3, none⟩ = some (.int .i64 p) := boxed_at rfl rfl
  cases hv : vBasin t r s p <;> cases hl : (inB tp 0 100000 && vThree bt rp gr) <;> cases hn : inB nd 0 1000000
  case true.true.true =>
    have HF := Lib.hid (wfor_yes hv hl hn)
    have hb := vBasin_out hv
    obtain ⟨l1, l2, l3, l4⟩ := loads_out hl
    have hW := Lib.hid (fun w => HWF.out w (by omega) l1 l2 l3 l4)
    rw [hv] at HBS
    rw [hl] at HAL
    clear hl HWF
    rw [HF.out]
    clear HF
    have hYR := Lib.hid (fun h => wfR_yes (t := t) (F := wtF t tp bt rp gr nd) h)
    have hNR := Lib.hid (fun h => wfR_no (t := t) (F := wtF t tp bt rp gr nd) h)
    generalize wtF t tp bt rp gr nd = F at *
    have e1 : askCode true true = 0 := rfl
    rcases (show F ≤ t ∨ t < F by omega) with hc | hc
    · have hR := Lib.hid (hYR.out hc)
      have hd : decide (F ≤ t) = true := by simp; omega
      rw [hd] at hW
      clear hd
      clear hYR hNR
      go_enter Tryz.func6, Tryz.ntmps6
      go_wp2_with (fail)
      go_region_held3 (fun w' => w'.cell? ⟨W.heap.size, 0, none⟩ = some (.int .i64 t) ∧ w'.cell? ⟨W.heap.size, 1, none⟩ = some (.int .i64 r) ∧ w'.cell? ⟨W.heap.size, 2, none⟩ = some (.int .i64 s) ∧ w'.cell? ⟨W.heap.size, 3, none⟩ = some (.int .i64 p))
        (first | go_keep | (go_split_ands; refine ⟨?_, ?_, ?_, ?_⟩ <;> (first | exact cell_keep hb2 (by assumption) | exact cell_keep hb1 (by assumption))))
        (first | (go_at_call 21; refine (HAL.out _ _ (Sl.pair_on (by repeat (first | exact Below.refl _ _ | refine kept_drew ?_)) (by first | rfl | simp))).mono ?_; rintro e w1 ⟨rfl, hb1⟩) | (go_at_call 22; refine (i_isNeed _ _).mono ?_; rintro e w' ⟨rfl, rfl⟩) | (go_at_call 20; refine (HBS.out _ _).mono ?_; rintro e w2 ⟨rfl, hb2⟩))
      go_wp2_with (go_at_call 23; refine (hW.out _).mono ?_; rintro e w3 ⟨rfl, hb3⟩)
      go_ret2
      exact ⟨by rw [hR.out]; rfl, kept_trans (kept_trans (kept_trans (by repeat (first | exact Below.refl _ _ | refine kept_alloc ?_ _ | refine kept_drew ?_)) hb1) hb2) hb3⟩
    · have hR := Lib.hid (hNR.out hc)
      have hd : decide (F ≤ t) = false := by simp; omega
      rw [hd] at hW
      clear hd
      clear hYR hNR
      go_enter Tryz.func6, Tryz.ntmps6
      go_wp2_with (fail)
      go_region_held3 (fun w' => w'.cell? ⟨W.heap.size, 0, none⟩ = some (.int .i64 t) ∧ w'.cell? ⟨W.heap.size, 1, none⟩ = some (.int .i64 r) ∧ w'.cell? ⟨W.heap.size, 2, none⟩ = some (.int .i64 s) ∧ w'.cell? ⟨W.heap.size, 3, none⟩ = some (.int .i64 p))
        (first | go_keep | (go_split_ands; refine ⟨?_, ?_, ?_, ?_⟩ <;> (first | exact cell_keep hb2 (by assumption) | exact cell_keep hb1 (by assumption))))
        (first | (go_at_call 21; refine (HAL.out _ _ (Sl.pair_on (by repeat (first | exact Below.refl _ _ | refine kept_drew ?_)) (by first | rfl | simp))).mono ?_; rintro e w1 ⟨rfl, hb1⟩) | (go_at_call 22; refine (i_isNeed _ _).mono ?_; rintro e w' ⟨rfl, rfl⟩) | (go_at_call 20; refine (HBS.out _ _).mono ?_; rintro e w2 ⟨rfl, hb2⟩))
      go_wp2_with (go_at_call 23; refine (hW.out _).mono ?_; rintro e w3 ⟨rfl, hb3⟩)
      go_ret2
      exact ⟨by rw [hR.out]; rfl, kept_trans (kept_trans (kept_trans (by repeat (first | exact Below.refl _ _ | refine kept_alloc ?_ _ | refine kept_drew ?_)) hb1) hb2) hb3⟩
  case false.true.true => 
    have HF := Lib.hid (wfor_no hv hl hn rfl)
    rw [hv] at HBS
    rw [hl] at HAL
    clear hl HWF
    have e0 : askCode false false = 1 := rfl
    have e1 : askCode false true = 1 := rfl
    have e2 : askCode true false = 2 := rfl
    go_enter Tryz.func6, Tryz.ntmps6
    go_wp2_with (fail)
    go_region_held3 (fun w' => w'.cell? ⟨W.heap.size, 0, none⟩ = some (.int .i64 t) ∧ w'.cell? ⟨W.heap.size, 1, none⟩ = some (.int .i64 r) ∧ w'.cell? ⟨W.heap.size, 2, none⟩ = some (.int .i64 s) ∧ w'.cell? ⟨W.heap.size, 3, none⟩ = some (.int .i64 p))
      (first | go_keep | (go_split_ands; refine ⟨?_, ?_, ?_, ?_⟩ <;> (first | exact cell_keep hb2 (by assumption) | exact cell_keep hb1 (by assumption))))
      (first | (go_at_call 21; refine (HAL.out _ _ (Sl.pair_on (by repeat (first | exact Below.refl _ _ | refine kept_drew ?_)) (by first | rfl | simp))).mono ?_; rintro e w1 ⟨rfl, hb1⟩) | (go_at_call 22; refine (i_isNeed _ _).mono ?_; rintro e w' ⟨rfl, rfl⟩) | (go_at_call 20; refine (HBS.out _ _).mono ?_; rintro e w2 ⟨rfl, hb2⟩))
    go_wp2_with fail
    go_ret2
    exact ⟨by rw [HF.out]; rfl, kept_trans (kept_trans (by repeat (first | exact Below.refl _ _ | refine kept_alloc ?_ _ | refine kept_drew ?_)) hb1) hb2⟩
  case false.true.false => 
    have HF := Lib.hid (wfor_no hv hl hn rfl)
    rw [hv] at HBS
    rw [hl] at HAL
    clear hl HWF
    have e0 : askCode false false = 1 := rfl
    have e1 : askCode false true = 1 := rfl
    have e2 : askCode true false = 2 := rfl
    go_enter Tryz.func6, Tryz.ntmps6
    go_wp2_with (fail)
    go_region_held3 (fun w' => w'.cell? ⟨W.heap.size, 0, none⟩ = some (.int .i64 t) ∧ w'.cell? ⟨W.heap.size, 1, none⟩ = some (.int .i64 r) ∧ w'.cell? ⟨W.heap.size, 2, none⟩ = some (.int .i64 s) ∧ w'.cell? ⟨W.heap.size, 3, none⟩ = some (.int .i64 p))
      (first | go_keep | (go_split_ands; refine ⟨?_, ?_, ?_, ?_⟩ <;> (first | exact cell_keep hb2 (by assumption) | exact cell_keep hb1 (by assumption))))
      (first | (go_at_call 21; refine (HAL.out _ _ (Sl.pair_on (by repeat (first | exact Below.refl _ _ | refine kept_drew ?_)) (by first | rfl | simp))).mono ?_; rintro e w1 ⟨rfl, hb1⟩) | (go_at_call 22; refine (i_isNeed _ _).mono ?_; rintro e w' ⟨rfl, rfl⟩) | (go_at_call 20; refine (HBS.out _ _).mono ?_; rintro e w2 ⟨rfl, hb2⟩))
    go_wp2_with fail
    go_ret2
    exact ⟨by rw [HF.out]; rfl, kept_trans (kept_trans (by repeat (first | exact Below.refl _ _ | refine kept_alloc ?_ _ | refine kept_drew ?_)) hb1) hb2⟩
  case true.true.false => 
    have HF := Lib.hid (wfor_no hv hl hn rfl)
    rw [hv] at HBS
    rw [hl] at HAL
    clear hl HWF
    have e0 : askCode false false = 1 := rfl
    have e1 : askCode false true = 1 := rfl
    have e2 : askCode true false = 2 := rfl
    go_enter Tryz.func6, Tryz.ntmps6
    go_wp2_with (fail)
    go_region_held3 (fun w' => w'.cell? ⟨W.heap.size, 0, none⟩ = some (.int .i64 t) ∧ w'.cell? ⟨W.heap.size, 1, none⟩ = some (.int .i64 r) ∧ w'.cell? ⟨W.heap.size, 2, none⟩ = some (.int .i64 s) ∧ w'.cell? ⟨W.heap.size, 3, none⟩ = some (.int .i64 p))
      (first | go_keep | (go_split_ands; refine ⟨?_, ?_, ?_, ?_⟩ <;> (first | exact cell_keep hb2 (by assumption) | exact cell_keep hb1 (by assumption))))
      (first | (go_at_call 21; refine (HAL.out _ _ (Sl.pair_on (by repeat (first | exact Below.refl _ _ | refine kept_drew ?_)) (by first | rfl | simp))).mono ?_; rintro e w1 ⟨rfl, hb1⟩) | (go_at_call 22; refine (i_isNeed _ _).mono ?_; rintro e w' ⟨rfl, rfl⟩) | (go_at_call 20; refine (HBS.out _ _).mono ?_; rintro e w2 ⟨rfl, hb2⟩))
    go_wp2_with fail
    go_ret2
    exact ⟨by rw [HF.out]; rfl, kept_trans (kept_trans (by repeat (first | exact Below.refl _ _ | refine kept_alloc ?_ _ | refine kept_drew ?_)) hb1) hb2⟩
  case true.false.true => 
    have HF := Lib.hid (wfor_no hv hl hn rfl)
    rw [hv] at HBS
    rw [hl] at HAL
    clear hl HWF
    have e0 : askCode false false = 1 := rfl
    have e1 : askCode false true = 1 := rfl
    have e2 : askCode true false = 2 := rfl
    go_enter Tryz.func6, Tryz.ntmps6
    go_wp2_with (fail)
    refine wp_region_held_drew (S := (fun w' => w'.cell? ⟨W.heap.size, 0, none⟩ = some (.int .i64 t) ∧ w'.cell? ⟨W.heap.size, 1, none⟩ = some (.int .i64 r) ∧ w'.cell? ⟨W.heap.size, 2, none⟩ = some (.int .i64 s) ∧ w'.cell? ⟨W.heap.size, 3, none⟩ = some (.int .i64 p))) (by kernel_rfl) ?_ (fun hHeld => ?_)
    · (try dsimp only); (first | go_keep | (go_split_ands; refine ⟨?_, ?_, ?_, ?_⟩ <;> (first | exact cell_keep hb2 (by assumption) | exact cell_keep hb1 (by assumption))))
    refine wpAnyH_take (i := 0) (v := ?vv0a) (by simp only [List.getElem?_toArray, List.getElem?_cons_zero]; exact rfl) (by kernel_rfl) (by kernel_rfl) (by kernel_rfl) ?hq0a (Or.inl ⟨by rfl, ?hy0a⟩) (by assumption) ?rest0a
    case hy0a => (intro w hSw; (try dsimp only at hSw); go_simp; try (with_reducible rfl))
    case hq0a => exact fun _ _ _ h => h
    try simp only [Act.put, List.setIfInBounds_toArray, List.set_cons_zero, List.set_cons_succ]
    refine wpAnyH_take (i := 1) (v := ?vv1a) (by simp only [List.getElem?_toArray, List.getElem?_cons_zero, List.getElem?_cons_succ]; exact rfl) (by kernel_rfl) (by kernel_rfl) (by kernel_rfl) ?hq1a (Or.inl ⟨by rfl, ?hy1a⟩) (by assumption) ?rest1a
    case hy1a => (intro w hSw; (try dsimp only at hSw); go_simp; try (with_reducible rfl))
    case hq1a => exact fun _ _ _ h => h
    try simp only [Act.put, List.setIfInBounds_toArray, List.set_cons_zero, List.set_cons_succ]
    refine wpAnyH_take (i := 2) (v := ?vv2a) (by simp only [List.getElem?_toArray, List.getElem?_cons_zero, List.getElem?_cons_succ]; exact rfl) (by kernel_rfl) (by kernel_rfl) (by kernel_rfl) ?hq2a (Or.inl ⟨by rfl, ?hy2a⟩) (by assumption) ?rest2a
    case hy2a => (intro w hSw; (try dsimp only at hSw); go_simp; try (with_reducible rfl))
    case hq2a => exact fun _ _ _ h => h
    try simp only [Act.put, List.setIfInBounds_toArray, List.set_cons_zero, List.set_cons_succ]
    refine wpAnyH_take (i := 3) (v := ?vv3a) (by simp only [List.getElem?_toArray, List.getElem?_cons_zero, List.getElem?_cons_succ]; exact rfl) (by kernel_rfl) (by kernel_rfl) (by kernel_rfl) ?hq3a (Or.inl ⟨by rfl, ?hy3a⟩) (by assumption) ?rest3a
    case hy3a => (intro w hSw; (try dsimp only at hSw); go_simp; try (with_reducible rfl))
    case hq3a => exact fun _ _ _ h => h
    try simp only [Act.put, List.setIfInBounds_toArray, List.set_cons_zero, List.set_cons_succ]
    refine wpAnyH_take (i := 4) (v := ?vv4a) (by simp only [List.getElem?_toArray, List.getElem?_cons_zero, List.getElem?_cons_succ]; exact rfl) (by kernel_rfl) (by kernel_rfl) (by kernel_rfl) ?hq4a (Or.inl ⟨by rfl, ?hy4a⟩) (by assumption) ?rest4a
    case hy4a => (intro w hSw; (try dsimp only at hSw); go_simp; try (with_reducible rfl))
    case hq4a => exact fun _ _ _ h => h
    try simp only [Act.put, List.setIfInBounds_toArray, List.set_cons_zero, List.set_cons_succ]
    refine wpAnyH_ready (rs := [5]) (by kernel_rfl) (by simp) ?_
    refine AllReadyH.cons (by simp only [List.getElem?_toArray, List.getElem?_cons_zero, List.getElem?_cons_succ]; exact rfl) (fun K hK => ?_) AllReadyH.nil
    go_simp
    refine hK.out _ _ ?_ (fun hHeld => ?_)
    · (try dsimp only); (first | go_keep | (go_split_ands; refine ⟨?_, ?_, ?_, ?_⟩ <;> (first | exact cell_keep hb2 (by assumption) | exact cell_keep hb1 (by assumption))))
    clear hK K
    try simp only [Act.put, List.setIfInBounds_toArray, List.set_cons_zero, List.set_cons_succ]
    refine wpAnyH_ready (rs := [6]) (by kernel_rfl) (by simp) ?_
    refine AllReadyH.cons (by simp only [List.getElem?_toArray, List.getElem?_cons_zero, List.getElem?_cons_succ]; exact rfl) (fun K hK => ?_) AllReadyH.nil
    go_simp
    (first | (go_at_call 21; refine (HAL.out _ _ (Sl.pair_on (by repeat (first | exact Below.refl _ _ | refine kept_drew ?_)) (by first | rfl | simp))).mono ?_; rintro e w1 ⟨rfl, hb1⟩) | (go_at_call 22; refine (i_isNeed _ _).mono ?_; rintro e w' ⟨rfl, rfl⟩) | (go_at_call 20; refine (HBS.out _ _).mono ?_; rintro e w2 ⟨rfl, hb2⟩))
    go_wp2_with fail
    refine hK.out _ _ ?_ (fun hHeld => ?_)
    · (try dsimp only); (first | go_keep | (go_split_ands; refine ⟨?_, ?_, ?_, ?_⟩ <;> (first | exact cell_keep hb2 (by assumption) | exact cell_keep hb1 (by assumption))))
    clear hK K
    try simp only [Act.put, List.setIfInBounds_toArray, List.set_cons_zero, List.set_cons_succ]
    refine wpAnyH_take (i := 7) (v := ?vv7a) (by simp only [List.getElem?_toArray, List.getElem?_cons_zero, List.getElem?_cons_succ]; exact rfl) (by kernel_rfl) (by kernel_rfl) (by kernel_rfl) ?hq7a (Or.inl ⟨by rfl, ?hy7a⟩) (by assumption) ?rest7a
    case hy7a => (intro w hSw; (try dsimp only at hSw); go_simp; try (with_reducible rfl))
    case hq7a => exact fun _ _ _ h => h
    try simp only [Act.put, List.setIfInBounds_toArray, List.set_cons_zero, List.set_cons_succ]
    refine wpAnyH_take (i := 8) (v := undef) (by simp only [List.getElem?_toArray, List.getElem?_cons_zero, List.getElem?_cons_succ]; exact rfl) (by kernel_rfl) (by kernel_rfl) (by kernel_rfl) ?hq8a (Or.inr ⟨by rfl, rfl⟩) (by assumption) ?rest8a
    case hq8a => exact fun _ _ _ h => h
    try simp only [Act.put, List.setIfInBounds_toArray, List.set_cons_zero, List.set_cons_succ]
    refine wpAnyH_take (i := 9) (v := undef) (by simp only [List.getElem?_toArray, List.getElem?_cons_zero, List.getElem?_cons_succ]; exact rfl) (by kernel_rfl) (by kernel_rfl) (by kernel_rfl) ?hq9a (Or.inr ⟨by rfl, rfl⟩) (by assumption) ?rest9a
    case hq9a => exact fun _ _ _ h => h
    try simp only [Act.put, List.setIfInBounds_toArray, List.set_cons_zero, List.set_cons_succ]
    refine wpAnyH_take (i := 10) (v := ?vv10a) (by simp only [List.getElem?_toArray, List.getElem?_cons_zero, List.getElem?_cons_succ]; exact rfl) (by kernel_rfl) (by kernel_rfl) (by kernel_rfl) ?hq10a (Or.inl ⟨by rfl, ?hy10a⟩) (by assumption) ?rest10a
    case hy10a => (intro w hSw; (try dsimp only at hSw); go_simp; try (with_reducible rfl))
    case hq10a => exact fun _ _ _ h => h
    try simp only [Act.put, List.setIfInBounds_toArray, List.set_cons_zero, List.set_cons_succ]
    refine wpAnyH_ready (rs := [11]) (by kernel_rfl) (by simp) ?_
    refine AllReadyH.cons (by simp only [List.getElem?_toArray, List.getElem?_cons_zero, List.getElem?_cons_succ]; exact rfl) (fun K hK => ?_) AllReadyH.nil
    go_simp
    (first | (go_at_call 21; refine (HAL.out _ _ (Sl.pair_on (by repeat (first | exact Below.refl _ _ | refine kept_drew ?_)) (by first | rfl | simp))).mono ?_; rintro e w1 ⟨rfl, hb1⟩) | (go_at_call 22; refine (i_isNeed _ _).mono ?_; rintro e w' ⟨rfl, rfl⟩) | (go_at_call 20; refine (HBS.out _ _).mono ?_; rintro e w2 ⟨rfl, hb2⟩))
    go_wp2_with fail
    refine hK.out _ _ ?_ (fun hHeld => ?_)
    · (try dsimp only); (first | go_keep | (go_split_ands; refine ⟨?_, ?_, ?_, ?_⟩ <;> (first | exact cell_keep hb2 (by assumption) | exact cell_keep hb1 (by assumption))))
    clear hK K
    try simp only [Act.put, List.setIfInBounds_toArray, List.set_cons_zero, List.set_cons_succ]
    refine wpAnyH_take (i := 12) (v := ?vv12a) (by simp only [List.getElem?_toArray, List.getElem?_cons_zero, List.getElem?_cons_succ]; exact rfl) (by kernel_rfl) (by kernel_rfl) (by kernel_rfl) ?hq12a (Or.inl ⟨by rfl, ?hy12a⟩) (by assumption) ?rest12a
    case hy12a => (intro w hSw; (try dsimp only at hSw); go_simp; try (with_reducible rfl))
    case hq12a => exact fun _ _ _ h => h
    try simp only [Act.put, List.setIfInBounds_toArray, List.set_cons_zero, List.set_cons_succ]
    refine wpAnyH_done (by kernel_rfl) ?_ _
    go_wp2_with fail
    go_ret2
    exact ⟨by rw [HF.out]; rfl, kept_trans (kept_trans (by repeat (first | exact Below.refl _ _ | refine kept_alloc ?_ _ | refine kept_drew ?_)) hb1) hb2⟩
  case true.false.false => 
    have HF := Lib.hid (wfor_no hv hl hn rfl)
    rw [hv] at HBS
    rw [hl] at HAL
    clear hl HWF
    have e0 : askCode false false = 1 := rfl
    have e1 : askCode false true = 1 := rfl
    have e2 : askCode true false = 2 := rfl
    go_enter Tryz.func6, Tryz.ntmps6
    go_wp2_with (fail)
    refine wp_region_held_drew (S := (fun w' => w'.cell? ⟨W.heap.size, 0, none⟩ = some (.int .i64 t) ∧ w'.cell? ⟨W.heap.size, 1, none⟩ = some (.int .i64 r) ∧ w'.cell? ⟨W.heap.size, 2, none⟩ = some (.int .i64 s) ∧ w'.cell? ⟨W.heap.size, 3, none⟩ = some (.int .i64 p))) (by kernel_rfl) ?_ (fun hHeld => ?_)
    · (try dsimp only); (first | go_keep | (go_split_ands; refine ⟨?_, ?_, ?_, ?_⟩ <;> (first | exact cell_keep hb2 (by assumption) | exact cell_keep hb1 (by assumption))))
    refine wpAnyH_take (i := 0) (v := ?vv0b) (by simp only [List.getElem?_toArray, List.getElem?_cons_zero]; exact rfl) (by kernel_rfl) (by kernel_rfl) (by kernel_rfl) ?hq0b (Or.inl ⟨by rfl, ?hy0b⟩) (by assumption) ?rest0b
    case hy0b => (intro w hSw; (try dsimp only at hSw); go_simp; try (with_reducible rfl))
    case hq0b => exact fun _ _ _ h => h
    try simp only [Act.put, List.setIfInBounds_toArray, List.set_cons_zero, List.set_cons_succ]
    refine wpAnyH_take (i := 1) (v := ?vv1b) (by simp only [List.getElem?_toArray, List.getElem?_cons_zero, List.getElem?_cons_succ]; exact rfl) (by kernel_rfl) (by kernel_rfl) (by kernel_rfl) ?hq1b (Or.inl ⟨by rfl, ?hy1b⟩) (by assumption) ?rest1b
    case hy1b => (intro w hSw; (try dsimp only at hSw); go_simp; try (with_reducible rfl))
    case hq1b => exact fun _ _ _ h => h
    try simp only [Act.put, List.setIfInBounds_toArray, List.set_cons_zero, List.set_cons_succ]
    refine wpAnyH_take (i := 2) (v := ?vv2b) (by simp only [List.getElem?_toArray, List.getElem?_cons_zero, List.getElem?_cons_succ]; exact rfl) (by kernel_rfl) (by kernel_rfl) (by kernel_rfl) ?hq2b (Or.inl ⟨by rfl, ?hy2b⟩) (by assumption) ?rest2b
    case hy2b => (intro w hSw; (try dsimp only at hSw); go_simp; try (with_reducible rfl))
    case hq2b => exact fun _ _ _ h => h
    try simp only [Act.put, List.setIfInBounds_toArray, List.set_cons_zero, List.set_cons_succ]
    refine wpAnyH_take (i := 3) (v := ?vv3b) (by simp only [List.getElem?_toArray, List.getElem?_cons_zero, List.getElem?_cons_succ]; exact rfl) (by kernel_rfl) (by kernel_rfl) (by kernel_rfl) ?hq3b (Or.inl ⟨by rfl, ?hy3b⟩) (by assumption) ?rest3b
    case hy3b => (intro w hSw; (try dsimp only at hSw); go_simp; try (with_reducible rfl))
    case hq3b => exact fun _ _ _ h => h
    try simp only [Act.put, List.setIfInBounds_toArray, List.set_cons_zero, List.set_cons_succ]
    refine wpAnyH_take (i := 4) (v := ?vv4b) (by simp only [List.getElem?_toArray, List.getElem?_cons_zero, List.getElem?_cons_succ]; exact rfl) (by kernel_rfl) (by kernel_rfl) (by kernel_rfl) ?hq4b (Or.inl ⟨by rfl, ?hy4b⟩) (by assumption) ?rest4b
    case hy4b => (intro w hSw; (try dsimp only at hSw); go_simp; try (with_reducible rfl))
    case hq4b => exact fun _ _ _ h => h
    try simp only [Act.put, List.setIfInBounds_toArray, List.set_cons_zero, List.set_cons_succ]
    refine wpAnyH_ready (rs := [5]) (by kernel_rfl) (by simp) ?_
    refine AllReadyH.cons (by simp only [List.getElem?_toArray, List.getElem?_cons_zero, List.getElem?_cons_succ]; exact rfl) (fun K hK => ?_) AllReadyH.nil
    go_simp
    refine hK.out _ _ ?_ (fun hHeld => ?_)
    · (try dsimp only); (first | go_keep | (go_split_ands; refine ⟨?_, ?_, ?_, ?_⟩ <;> (first | exact cell_keep hb2 (by assumption) | exact cell_keep hb1 (by assumption))))
    clear hK K
    try simp only [Act.put, List.setIfInBounds_toArray, List.set_cons_zero, List.set_cons_succ]
    refine wpAnyH_ready (rs := [6]) (by kernel_rfl) (by simp) ?_
    refine AllReadyH.cons (by simp only [List.getElem?_toArray, List.getElem?_cons_zero, List.getElem?_cons_succ]; exact rfl) (fun K hK => ?_) AllReadyH.nil
    go_simp
    (first | (go_at_call 21; refine (HAL.out _ _ (Sl.pair_on (by repeat (first | exact Below.refl _ _ | refine kept_drew ?_)) (by first | rfl | simp))).mono ?_; rintro e w1 ⟨rfl, hb1⟩) | (go_at_call 22; refine (i_isNeed _ _).mono ?_; rintro e w' ⟨rfl, rfl⟩) | (go_at_call 20; refine (HBS.out _ _).mono ?_; rintro e w2 ⟨rfl, hb2⟩))
    go_wp2_with fail
    refine hK.out _ _ ?_ (fun hHeld => ?_)
    · (try dsimp only); (first | go_keep | (go_split_ands; refine ⟨?_, ?_, ?_, ?_⟩ <;> (first | exact cell_keep hb2 (by assumption) | exact cell_keep hb1 (by assumption))))
    clear hK K
    try simp only [Act.put, List.setIfInBounds_toArray, List.set_cons_zero, List.set_cons_succ]
    refine wpAnyH_take (i := 7) (v := ?vv7b) (by simp only [List.getElem?_toArray, List.getElem?_cons_zero, List.getElem?_cons_succ]; exact rfl) (by kernel_rfl) (by kernel_rfl) (by kernel_rfl) ?hq7b (Or.inl ⟨by rfl, ?hy7b⟩) (by assumption) ?rest7b
    case hy7b => (intro w hSw; (try dsimp only at hSw); go_simp; try (with_reducible rfl))
    case hq7b => exact fun _ _ _ h => h
    try simp only [Act.put, List.setIfInBounds_toArray, List.set_cons_zero, List.set_cons_succ]
    refine wpAnyH_take (i := 8) (v := undef) (by simp only [List.getElem?_toArray, List.getElem?_cons_zero, List.getElem?_cons_succ]; exact rfl) (by kernel_rfl) (by kernel_rfl) (by kernel_rfl) ?hq8b (Or.inr ⟨by rfl, rfl⟩) (by assumption) ?rest8b
    case hq8b => exact fun _ _ _ h => h
    try simp only [Act.put, List.setIfInBounds_toArray, List.set_cons_zero, List.set_cons_succ]
    refine wpAnyH_take (i := 9) (v := undef) (by simp only [List.getElem?_toArray, List.getElem?_cons_zero, List.getElem?_cons_succ]; exact rfl) (by kernel_rfl) (by kernel_rfl) (by kernel_rfl) ?hq9b (Or.inr ⟨by rfl, rfl⟩) (by assumption) ?rest9b
    case hq9b => exact fun _ _ _ h => h
    try simp only [Act.put, List.setIfInBounds_toArray, List.set_cons_zero, List.set_cons_succ]
    refine wpAnyH_take (i := 10) (v := ?vv10b) (by simp only [List.getElem?_toArray, List.getElem?_cons_zero, List.getElem?_cons_succ]; exact rfl) (by kernel_rfl) (by kernel_rfl) (by kernel_rfl) ?hq10b (Or.inl ⟨by rfl, ?hy10b⟩) (by assumption) ?rest10b
    case hy10b => (intro w hSw; (try dsimp only at hSw); go_simp; try (with_reducible rfl))
    case hq10b => exact fun _ _ _ h => h
    try simp only [Act.put, List.setIfInBounds_toArray, List.set_cons_zero, List.set_cons_succ]
    refine wpAnyH_ready (rs := [11]) (by kernel_rfl) (by simp) ?_
    refine AllReadyH.cons (by simp only [List.getElem?_toArray, List.getElem?_cons_zero, List.getElem?_cons_succ]; exact rfl) (fun K hK => ?_) AllReadyH.nil
    go_simp
    (first | (go_at_call 21; refine (HAL.out _ _ (Sl.pair_on (by repeat (first | exact Below.refl _ _ | refine kept_drew ?_)) (by first | rfl | simp))).mono ?_; rintro e w1 ⟨rfl, hb1⟩) | (go_at_call 22; refine (i_isNeed _ _).mono ?_; rintro e w' ⟨rfl, rfl⟩) | (go_at_call 20; refine (HBS.out _ _).mono ?_; rintro e w2 ⟨rfl, hb2⟩))
    go_wp2_with fail
    refine hK.out _ _ ?_ (fun hHeld => ?_)
    · (try dsimp only); (first | go_keep | (go_split_ands; refine ⟨?_, ?_, ?_, ?_⟩ <;> (first | exact cell_keep hb2 (by assumption) | exact cell_keep hb1 (by assumption))))
    clear hK K
    try simp only [Act.put, List.setIfInBounds_toArray, List.set_cons_zero, List.set_cons_succ]
    refine wpAnyH_take (i := 12) (v := ?vv12b) (by simp only [List.getElem?_toArray, List.getElem?_cons_zero, List.getElem?_cons_succ]; exact rfl) (by kernel_rfl) (by kernel_rfl) (by kernel_rfl) ?hq12b (Or.inl ⟨by rfl, ?hy12b⟩) (by assumption) ?rest12b
    case hy12b => (intro w hSw; (try dsimp only at hSw); go_simp; try (with_reducible rfl))
    case hq12b => exact fun _ _ _ h => h
    try simp only [Act.put, List.setIfInBounds_toArray, List.set_cons_zero, List.set_cons_succ]
    refine wpAnyH_done (by kernel_rfl) ?_ _
    go_wp2_with fail
    go_ret2
    exact ⟨by rw [HF.out]; rfl, kept_trans (kept_trans (by repeat (first | exact Below.refl _ _ | refine kept_alloc ?_ _ | refine kept_drew ?_)) hb1) hb2⟩
  case false.false.true => 
    have HF := Lib.hid (wfor_no hv hl hn rfl)
    rw [hv] at HBS
    rw [hl] at HAL
    clear hl HWF
    have e0 : askCode false false = 1 := rfl
    have e1 : askCode false true = 1 := rfl
    have e2 : askCode true false = 2 := rfl
    go_enter Tryz.func6, Tryz.ntmps6
    go_wp2_with (fail)
    refine wp_region_held_drew (S := (fun w' => w'.cell? ⟨W.heap.size, 0, none⟩ = some (.int .i64 t) ∧ w'.cell? ⟨W.heap.size, 1, none⟩ = some (.int .i64 r) ∧ w'.cell? ⟨W.heap.size, 2, none⟩ = some (.int .i64 s) ∧ w'.cell? ⟨W.heap.size, 3, none⟩ = some (.int .i64 p))) (by kernel_rfl) ?_ (fun hHeld => ?_)
    · (try dsimp only); (first | go_keep | (go_split_ands; refine ⟨?_, ?_, ?_, ?_⟩ <;> (first | exact cell_keep hb2 (by assumption) | exact cell_keep hb1 (by assumption))))
    refine wpAnyH_take (i := 0) (v := ?vv0c) (by simp only [List.getElem?_toArray, List.getElem?_cons_zero]; exact rfl) (by kernel_rfl) (by kernel_rfl) (by kernel_rfl) ?hq0c (Or.inl ⟨by rfl, ?hy0c⟩) (by assumption) ?rest0c
    case hy0c => (intro w hSw; (try dsimp only at hSw); go_simp; try (with_reducible rfl))
    case hq0c => exact fun _ _ _ h => h
    try simp only [Act.put, List.setIfInBounds_toArray, List.set_cons_zero, List.set_cons_succ]
    refine wpAnyH_take (i := 1) (v := ?vv1c) (by simp only [List.getElem?_toArray, List.getElem?_cons_zero, List.getElem?_cons_succ]; exact rfl) (by kernel_rfl) (by kernel_rfl) (by kernel_rfl) ?hq1c (Or.inl ⟨by rfl, ?hy1c⟩) (by assumption) ?rest1c
    case hy1c => (intro w hSw; (try dsimp only at hSw); go_simp; try (with_reducible rfl))
    case hq1c => exact fun _ _ _ h => h
    try simp only [Act.put, List.setIfInBounds_toArray, List.set_cons_zero, List.set_cons_succ]
    refine wpAnyH_take (i := 2) (v := ?vv2c) (by simp only [List.getElem?_toArray, List.getElem?_cons_zero, List.getElem?_cons_succ]; exact rfl) (by kernel_rfl) (by kernel_rfl) (by kernel_rfl) ?hq2c (Or.inl ⟨by rfl, ?hy2c⟩) (by assumption) ?rest2c
    case hy2c => (intro w hSw; (try dsimp only at hSw); go_simp; try (with_reducible rfl))
    case hq2c => exact fun _ _ _ h => h
    try simp only [Act.put, List.setIfInBounds_toArray, List.set_cons_zero, List.set_cons_succ]
    refine wpAnyH_take (i := 3) (v := ?vv3c) (by simp only [List.getElem?_toArray, List.getElem?_cons_zero, List.getElem?_cons_succ]; exact rfl) (by kernel_rfl) (by kernel_rfl) (by kernel_rfl) ?hq3c (Or.inl ⟨by rfl, ?hy3c⟩) (by assumption) ?rest3c
    case hy3c => (intro w hSw; (try dsimp only at hSw); go_simp; try (with_reducible rfl))
    case hq3c => exact fun _ _ _ h => h
    try simp only [Act.put, List.setIfInBounds_toArray, List.set_cons_zero, List.set_cons_succ]
    refine wpAnyH_take (i := 4) (v := ?vv4c) (by simp only [List.getElem?_toArray, List.getElem?_cons_zero, List.getElem?_cons_succ]; exact rfl) (by kernel_rfl) (by kernel_rfl) (by kernel_rfl) ?hq4c (Or.inl ⟨by rfl, ?hy4c⟩) (by assumption) ?rest4c
    case hy4c => (intro w hSw; (try dsimp only at hSw); go_simp; try (with_reducible rfl))
    case hq4c => exact fun _ _ _ h => h
    try simp only [Act.put, List.setIfInBounds_toArray, List.set_cons_zero, List.set_cons_succ]
    refine wpAnyH_ready (rs := [5]) (by kernel_rfl) (by simp) ?_
    refine AllReadyH.cons (by simp only [List.getElem?_toArray, List.getElem?_cons_zero, List.getElem?_cons_succ]; exact rfl) (fun K hK => ?_) AllReadyH.nil
    go_simp
    refine hK.out _ _ ?_ (fun hHeld => ?_)
    · (try dsimp only); (first | go_keep | (go_split_ands; refine ⟨?_, ?_, ?_, ?_⟩ <;> (first | exact cell_keep hb2 (by assumption) | exact cell_keep hb1 (by assumption))))
    clear hK K
    try simp only [Act.put, List.setIfInBounds_toArray, List.set_cons_zero, List.set_cons_succ]
    refine wpAnyH_ready (rs := [6]) (by kernel_rfl) (by simp) ?_
    refine AllReadyH.cons (by simp only [List.getElem?_toArray, List.getElem?_cons_zero, List.getElem?_cons_succ]; exact rfl) (fun K hK => ?_) AllReadyH.nil
    go_simp
    (first | (go_at_call 21; refine (HAL.out _ _ (Sl.pair_on (by repeat (first | exact Below.refl _ _ | refine kept_drew ?_)) (by first | rfl | simp))).mono ?_; rintro e w1 ⟨rfl, hb1⟩) | (go_at_call 22; refine (i_isNeed _ _).mono ?_; rintro e w' ⟨rfl, rfl⟩) | (go_at_call 20; refine (HBS.out _ _).mono ?_; rintro e w2 ⟨rfl, hb2⟩))
    go_wp2_with fail
    refine hK.out _ _ ?_ (fun hHeld => ?_)
    · (try dsimp only); (first | go_keep | (go_split_ands; refine ⟨?_, ?_, ?_, ?_⟩ <;> (first | exact cell_keep hb2 (by assumption) | exact cell_keep hb1 (by assumption))))
    clear hK K
    try simp only [Act.put, List.setIfInBounds_toArray, List.set_cons_zero, List.set_cons_succ]
    refine wpAnyH_take (i := 7) (v := ?vv7c) (by simp only [List.getElem?_toArray, List.getElem?_cons_zero, List.getElem?_cons_succ]; exact rfl) (by kernel_rfl) (by kernel_rfl) (by kernel_rfl) ?hq7c (Or.inl ⟨by rfl, ?hy7c⟩) (by assumption) ?rest7c
    case hy7c => (intro w hSw; (try dsimp only at hSw); go_simp; try (with_reducible rfl))
    case hq7c => exact fun _ _ _ h => h
    try simp only [Act.put, List.setIfInBounds_toArray, List.set_cons_zero, List.set_cons_succ]
    refine wpAnyH_take (i := 8) (v := undef) (by simp only [List.getElem?_toArray, List.getElem?_cons_zero, List.getElem?_cons_succ]; exact rfl) (by kernel_rfl) (by kernel_rfl) (by kernel_rfl) ?hq8c (Or.inr ⟨by rfl, rfl⟩) (by assumption) ?rest8c
    case hq8c => exact fun _ _ _ h => h
    try simp only [Act.put, List.setIfInBounds_toArray, List.set_cons_zero, List.set_cons_succ]
    refine wpAnyH_take (i := 9) (v := undef) (by simp only [List.getElem?_toArray, List.getElem?_cons_zero, List.getElem?_cons_succ]; exact rfl) (by kernel_rfl) (by kernel_rfl) (by kernel_rfl) ?hq9c (Or.inr ⟨by rfl, rfl⟩) (by assumption) ?rest9c
    case hq9c => exact fun _ _ _ h => h
    try simp only [Act.put, List.setIfInBounds_toArray, List.set_cons_zero, List.set_cons_succ]
    refine wpAnyH_take (i := 10) (v := ?vv10c) (by simp only [List.getElem?_toArray, List.getElem?_cons_zero, List.getElem?_cons_succ]; exact rfl) (by kernel_rfl) (by kernel_rfl) (by kernel_rfl) ?hq10c (Or.inl ⟨by rfl, ?hy10c⟩) (by assumption) ?rest10c
    case hy10c => (intro w hSw; (try dsimp only at hSw); go_simp; try (with_reducible rfl))
    case hq10c => exact fun _ _ _ h => h
    try simp only [Act.put, List.setIfInBounds_toArray, List.set_cons_zero, List.set_cons_succ]
    refine wpAnyH_ready (rs := [11]) (by kernel_rfl) (by simp) ?_
    refine AllReadyH.cons (by simp only [List.getElem?_toArray, List.getElem?_cons_zero, List.getElem?_cons_succ]; exact rfl) (fun K hK => ?_) AllReadyH.nil
    go_simp
    (first | (go_at_call 21; refine (HAL.out _ _ (Sl.pair_on (by repeat (first | exact Below.refl _ _ | refine kept_drew ?_)) (by first | rfl | simp))).mono ?_; rintro e w1 ⟨rfl, hb1⟩) | (go_at_call 22; refine (i_isNeed _ _).mono ?_; rintro e w' ⟨rfl, rfl⟩) | (go_at_call 20; refine (HBS.out _ _).mono ?_; rintro e w2 ⟨rfl, hb2⟩))
    go_wp2_with fail
    refine hK.out _ _ ?_ (fun hHeld => ?_)
    · (try dsimp only); (first | go_keep | (go_split_ands; refine ⟨?_, ?_, ?_, ?_⟩ <;> (first | exact cell_keep hb2 (by assumption) | exact cell_keep hb1 (by assumption))))
    clear hK K
    try simp only [Act.put, List.setIfInBounds_toArray, List.set_cons_zero, List.set_cons_succ]
    refine wpAnyH_take (i := 12) (v := ?vv12c) (by simp only [List.getElem?_toArray, List.getElem?_cons_zero, List.getElem?_cons_succ]; exact rfl) (by kernel_rfl) (by kernel_rfl) (by kernel_rfl) ?hq12c (Or.inl ⟨by rfl, ?hy12c⟩) (by assumption) ?rest12c
    case hy12c => (intro w hSw; (try dsimp only at hSw); go_simp; try (with_reducible rfl))
    case hq12c => exact fun _ _ _ h => h
    try simp only [Act.put, List.setIfInBounds_toArray, List.set_cons_zero, List.set_cons_succ]
    refine wpAnyH_done (by kernel_rfl) ?_ _
    go_wp2_with fail
    go_ret2
    exact ⟨by rw [HF.out]; rfl, kept_trans (kept_trans (by repeat (first | exact Below.refl _ _ | refine kept_alloc ?_ _ | refine kept_drew ?_)) hb1) hb2⟩
  case false.false.false => 
    have HF := Lib.hid (wfor_no hv hl hn rfl)
    rw [hv] at HBS
    rw [hl] at HAL
    clear hl HWF
    have e0 : askCode false false = 1 := rfl
    have e1 : askCode false true = 1 := rfl
    have e2 : askCode true false = 2 := rfl
    go_enter Tryz.func6, Tryz.ntmps6
    go_wp2_with (fail)
    refine wp_region_held_drew (S := (fun w' => w'.cell? ⟨W.heap.size, 0, none⟩ = some (.int .i64 t) ∧ w'.cell? ⟨W.heap.size, 1, none⟩ = some (.int .i64 r) ∧ w'.cell? ⟨W.heap.size, 2, none⟩ = some (.int .i64 s) ∧ w'.cell? ⟨W.heap.size, 3, none⟩ = some (.int .i64 p))) (by kernel_rfl) ?_ (fun hHeld => ?_)
    · (try dsimp only); (first | go_keep | (go_split_ands; refine ⟨?_, ?_, ?_, ?_⟩ <;> (first | exact cell_keep hb2 (by assumption) | exact cell_keep hb1 (by assumption))))
    refine wpAnyH_take (i := 0) (v := ?vv0d) (by simp only [List.getElem?_toArray, List.getElem?_cons_zero]; exact rfl) (by kernel_rfl) (by kernel_rfl) (by kernel_rfl) ?hq0d (Or.inl ⟨by rfl, ?hy0d⟩) (by assumption) ?rest0d
    case hy0d => (intro w hSw; (try dsimp only at hSw); go_simp; try (with_reducible rfl))
    case hq0d => exact fun _ _ _ h => h
    try simp only [Act.put, List.setIfInBounds_toArray, List.set_cons_zero, List.set_cons_succ]
    refine wpAnyH_take (i := 1) (v := ?vv1d) (by simp only [List.getElem?_toArray, List.getElem?_cons_zero, List.getElem?_cons_succ]; exact rfl) (by kernel_rfl) (by kernel_rfl) (by kernel_rfl) ?hq1d (Or.inl ⟨by rfl, ?hy1d⟩) (by assumption) ?rest1d
    case hy1d => (intro w hSw; (try dsimp only at hSw); go_simp; try (with_reducible rfl))
    case hq1d => exact fun _ _ _ h => h
    try simp only [Act.put, List.setIfInBounds_toArray, List.set_cons_zero, List.set_cons_succ]
    refine wpAnyH_take (i := 2) (v := ?vv2d) (by simp only [List.getElem?_toArray, List.getElem?_cons_zero, List.getElem?_cons_succ]; exact rfl) (by kernel_rfl) (by kernel_rfl) (by kernel_rfl) ?hq2d (Or.inl ⟨by rfl, ?hy2d⟩) (by assumption) ?rest2d
    case hy2d => (intro w hSw; (try dsimp only at hSw); go_simp; try (with_reducible rfl))
    case hq2d => exact fun _ _ _ h => h
    try simp only [Act.put, List.setIfInBounds_toArray, List.set_cons_zero, List.set_cons_succ]
    refine wpAnyH_take (i := 3) (v := ?vv3d) (by simp only [List.getElem?_toArray, List.getElem?_cons_zero, List.getElem?_cons_succ]; exact rfl) (by kernel_rfl) (by kernel_rfl) (by kernel_rfl) ?hq3d (Or.inl ⟨by rfl, ?hy3d⟩) (by assumption) ?rest3d
    case hy3d => (intro w hSw; (try dsimp only at hSw); go_simp; try (with_reducible rfl))
    case hq3d => exact fun _ _ _ h => h
    try simp only [Act.put, List.setIfInBounds_toArray, List.set_cons_zero, List.set_cons_succ]
    refine wpAnyH_take (i := 4) (v := ?vv4d) (by simp only [List.getElem?_toArray, List.getElem?_cons_zero, List.getElem?_cons_succ]; exact rfl) (by kernel_rfl) (by kernel_rfl) (by kernel_rfl) ?hq4d (Or.inl ⟨by rfl, ?hy4d⟩) (by assumption) ?rest4d
    case hy4d => (intro w hSw; (try dsimp only at hSw); go_simp; try (with_reducible rfl))
    case hq4d => exact fun _ _ _ h => h
    try simp only [Act.put, List.setIfInBounds_toArray, List.set_cons_zero, List.set_cons_succ]
    refine wpAnyH_ready (rs := [5]) (by kernel_rfl) (by simp) ?_
    refine AllReadyH.cons (by simp only [List.getElem?_toArray, List.getElem?_cons_zero, List.getElem?_cons_succ]; exact rfl) (fun K hK => ?_) AllReadyH.nil
    go_simp
    refine hK.out _ _ ?_ (fun hHeld => ?_)
    · (try dsimp only); (first | go_keep | (go_split_ands; refine ⟨?_, ?_, ?_, ?_⟩ <;> (first | exact cell_keep hb2 (by assumption) | exact cell_keep hb1 (by assumption))))
    clear hK K
    try simp only [Act.put, List.setIfInBounds_toArray, List.set_cons_zero, List.set_cons_succ]
    refine wpAnyH_ready (rs := [6]) (by kernel_rfl) (by simp) ?_
    refine AllReadyH.cons (by simp only [List.getElem?_toArray, List.getElem?_cons_zero, List.getElem?_cons_succ]; exact rfl) (fun K hK => ?_) AllReadyH.nil
    go_simp
    (first | (go_at_call 21; refine (HAL.out _ _ (Sl.pair_on (by repeat (first | exact Below.refl _ _ | refine kept_drew ?_)) (by first | rfl | simp))).mono ?_; rintro e w1 ⟨rfl, hb1⟩) | (go_at_call 22; refine (i_isNeed _ _).mono ?_; rintro e w' ⟨rfl, rfl⟩) | (go_at_call 20; refine (HBS.out _ _).mono ?_; rintro e w2 ⟨rfl, hb2⟩))
    go_wp2_with fail
    refine hK.out _ _ ?_ (fun hHeld => ?_)
    · (try dsimp only); (first | go_keep | (go_split_ands; refine ⟨?_, ?_, ?_, ?_⟩ <;> (first | exact cell_keep hb2 (by assumption) | exact cell_keep hb1 (by assumption))))
    clear hK K
    try simp only [Act.put, List.setIfInBounds_toArray, List.set_cons_zero, List.set_cons_succ]
    refine wpAnyH_take (i := 7) (v := ?vv7d) (by simp only [List.getElem?_toArray, List.getElem?_cons_zero, List.getElem?_cons_succ]; exact rfl) (by kernel_rfl) (by kernel_rfl) (by kernel_rfl) ?hq7d (Or.inl ⟨by rfl, ?hy7d⟩) (by assumption) ?rest7d
    case hy7d => (intro w hSw; (try dsimp only at hSw); go_simp; try (with_reducible rfl))
    case hq7d => exact fun _ _ _ h => h
    try simp only [Act.put, List.setIfInBounds_toArray, List.set_cons_zero, List.set_cons_succ]
    refine wpAnyH_take (i := 8) (v := undef) (by simp only [List.getElem?_toArray, List.getElem?_cons_zero, List.getElem?_cons_succ]; exact rfl) (by kernel_rfl) (by kernel_rfl) (by kernel_rfl) ?hq8d (Or.inr ⟨by rfl, rfl⟩) (by assumption) ?rest8d
    case hq8d => exact fun _ _ _ h => h
    try simp only [Act.put, List.setIfInBounds_toArray, List.set_cons_zero, List.set_cons_succ]
    refine wpAnyH_take (i := 9) (v := undef) (by simp only [List.getElem?_toArray, List.getElem?_cons_zero, List.getElem?_cons_succ]; exact rfl) (by kernel_rfl) (by kernel_rfl) (by kernel_rfl) ?hq9d (Or.inr ⟨by rfl, rfl⟩) (by assumption) ?rest9d
    case hq9d => exact fun _ _ _ h => h
    try simp only [Act.put, List.setIfInBounds_toArray, List.set_cons_zero, List.set_cons_succ]
    refine wpAnyH_take (i := 10) (v := ?vv10d) (by simp only [List.getElem?_toArray, List.getElem?_cons_zero, List.getElem?_cons_succ]; exact rfl) (by kernel_rfl) (by kernel_rfl) (by kernel_rfl) ?hq10d (Or.inl ⟨by rfl, ?hy10d⟩) (by assumption) ?rest10d
    case hy10d => (intro w hSw; (try dsimp only at hSw); go_simp; try (with_reducible rfl))
    case hq10d => exact fun _ _ _ h => h
    try simp only [Act.put, List.setIfInBounds_toArray, List.set_cons_zero, List.set_cons_succ]
    refine wpAnyH_ready (rs := [11]) (by kernel_rfl) (by simp) ?_
    refine AllReadyH.cons (by simp only [List.getElem?_toArray, List.getElem?_cons_zero, List.getElem?_cons_succ]; exact rfl) (fun K hK => ?_) AllReadyH.nil
    go_simp
    (first | (go_at_call 21; refine (HAL.out _ _ (Sl.pair_on (by repeat (first | exact Below.refl _ _ | refine kept_drew ?_)) (by first | rfl | simp))).mono ?_; rintro e w1 ⟨rfl, hb1⟩) | (go_at_call 22; refine (i_isNeed _ _).mono ?_; rintro e w' ⟨rfl, rfl⟩) | (go_at_call 20; refine (HBS.out _ _).mono ?_; rintro e w2 ⟨rfl, hb2⟩))
    go_wp2_with fail
    refine hK.out _ _ ?_ (fun hHeld => ?_)
    · (try dsimp only); (first | go_keep | (go_split_ands; refine ⟨?_, ?_, ?_, ?_⟩ <;> (first | exact cell_keep hb2 (by assumption) | exact cell_keep hb1 (by assumption))))
    clear hK K
    try simp only [Act.put, List.setIfInBounds_toArray, List.set_cons_zero, List.set_cons_succ]
    refine wpAnyH_take (i := 12) (v := ?vv12d) (by simp only [List.getElem?_toArray, List.getElem?_cons_zero, List.getElem?_cons_succ]; exact rfl) (by kernel_rfl) (by kernel_rfl) (by kernel_rfl) ?hq12d (Or.inl ⟨by rfl, ?hy12d⟩) (by assumption) ?rest12d
    case hy12d => (intro w hSw; (try dsimp only at hSw); go_simp; try (with_reducible rfl))
    case hq12d => exact fun _ _ _ h => h
    try simp only [Act.put, List.setIfInBounds_toArray, List.set_cons_zero, List.set_cons_succ]
    refine wpAnyH_done (by kernel_rfl) ?_ _
    go_wp2_with fail
    go_ret2
    exact ⟨by rw [HF.out]; rfl, kept_trans (kept_trans (by repeat (first | exact Below.refl _ _ | refine kept_alloc ?_ _ | refine kept_drew ?_)) hb1) hb2⟩

set_option maxHeartbeats 1000000 in
theorem s_WaterFor (t r s p tp bt rp gr nd : Int) (W : World) : Calls Tryz.prog 11 #[.agg #[.int .i64 t, .int .i64 r, .int .i64 s, .int .i64 p], .int .i64 tp, .int .i64 bt, .int .i64 rp, .int .i64 gr, .int .i64 nd] W fun e W' => e = .returned (.tuple #[.int .i64 (wfor t r s p tp bt rp gr nd).1, .int .i64 (wfor t r s p tp bt rp gr nd).2]) ∧ Below W.heap.size W W' := by
  have q0 : (W.alloc (.cells #[.int .i64 t, .int .i64 r, .int .i64 s, .int .i64 p] 25)).cell? ⟨W.heap.size, 0, none⟩ = some (.int .i64 t) := boxed_at rfl rfl
  have q1 : (W.alloc (.cells #[.int .i64 t, .int .i64 r, .int .i64 s, .int .i64 p] 25)).cell? ⟨W.heap.size, 1, none⟩ = some (.int .i64 r) := boxed_at rfl rfl
  have q2 : (W.alloc (.cells #[.int .i64 t, .int .i64 r, .int .i64 s, .int .i64 p] 25)).cell? ⟨W.heap.size, 2, none⟩ = some (.int .i64 s) := boxed_at rfl rfl
  have q3 : (W.alloc (.cells #[.int .i64 t, .int .i64 r, .int .i64 s, .int .i64 p] 25)).cell? ⟨W.heap.size, 3, none⟩ = some (.int .i64 p) := boxed_at rfl rfl
  have HOK := Lib.hid (s_l16Ok t r s p _ _ q0 q1 q2 q3)
  have HWF := Lib.hid (s_l16Water W.heap.size t tp bt rp gr nd _ q0)
  clear q0 q1 q2 q3
  have HL0 : Hid ((inB tp 0 100000 && vThree bt rp gr) = (inB tp 0 100000 && vThree bt rp gr)) := rfl
  cases hv : vBasin t r s p <;> cases h1 : inB tp 0 100000 <;> cases h2 : vThree bt rp gr <;> cases hn : inB nd 0 1000000
  case true.true.true.true =>
    have hl : (inB tp 0 100000 && vThree bt rp gr) = true := by rw [h1, h2]; rfl
    have HF := Lib.hid (wfor_yes hv hl hn)
    have hb := vBasin_out hv
    obtain ⟨l1, l2, l3, l4⟩ := loads_out hl
    have hW := Lib.hid (HWF.out (by omega) l1 l2 l3 l4)
    have hBD := wtF_bd t tp bt rp gr nd (by omega)
    rw [hv] at HOK
    clear hl HWF HL0
    rw [HF.out]
    clear HF
    have hYR := Lib.hid (fun h => wfR_yes (t := t) (F := wtF t tp bt rp gr nd) h)
    have hNR := Lib.hid (fun h => wfR_no (t := t) (F := wtF t tp bt rp gr nd) h)
    generalize wtF t tp bt rp gr nd = F at *
    rcases (show F ≤ t ∨ t < F by omega) with hc | hc
    · have hR := Lib.hid (hYR.out hc)
      rw [if_pos hc] at hW
      clear hYR hNR
      go_enter Tryz.func11, Tryz.ntmps11
      go_wp2_with (first | (go_at_call 29; refine HOK.out.mono ?_; rintro e w' ⟨rfl, rfl⟩) | (go_at_call 30; refine (s_l04Kilos _ _).mono ?_; rintro e w' ⟨rfl, rfl⟩) | (go_at_call 31; refine (s_l16Three _ _ _ _).mono ?_; rintro e w' ⟨rfl, rfl⟩) | (go_at_call 32; refine (s_l04Rides _ _).mono ?_; rintro e w' ⟨rfl, rfl⟩) | (go_at_call 33; refine hW.out.mono ?_; rintro e w' ⟨rfl, rfl⟩))
      go_ret2
      exact ⟨by rw [hR.out]; rfl, kept_alloc (Below.refl _ _) _⟩
    · have hR := Lib.hid (hNR.out hc)
      rw [if_neg (by omega)] at hW
      clear hYR hNR
      go_enter Tryz.func11, Tryz.ntmps11
      go_wp2_with (first | (go_at_call 29; refine HOK.out.mono ?_; rintro e w' ⟨rfl, rfl⟩) | (go_at_call 30; refine (s_l04Kilos _ _).mono ?_; rintro e w' ⟨rfl, rfl⟩) | (go_at_call 31; refine (s_l16Three _ _ _ _).mono ?_; rintro e w' ⟨rfl, rfl⟩) | (go_at_call 32; refine (s_l04Rides _ _).mono ?_; rintro e w' ⟨rfl, rfl⟩) | (go_at_call 33; refine hW.out.mono ?_; rintro e w' ⟨rfl, rfl⟩))
      go_ret2
      exact ⟨by rw [hR.out]; rfl, kept_alloc (Below.refl _ _) _⟩
  all_goals
    have hl := HL0.out
    rw [h1, h2] at hl
    have HF := Lib.hid (wfor_no (t := t) (r := r) (s := s) (p := p) (tp := tp) (bt := bt) (rp := rp) (gr := gr) (nd := nd) hv (by rw [h1, h2]) hn rfl)
    rw [hv] at HOK
    clear hl HWF HL0
    go_enter Tryz.func11, Tryz.ntmps11
    go_wp2_with (first | (go_at_call 29; refine HOK.out.mono ?_; rintro e w' ⟨rfl, rfl⟩) | (go_at_call 30; refine (s_l04Kilos _ _).mono ?_; rintro e w' ⟨rfl, rfl⟩) | (go_at_call 31; refine (s_l16Three _ _ _ _).mono ?_; rintro e w' ⟨rfl, rfl⟩) | (go_at_call 32; refine (s_l04Rides _ _).mono ?_; rintro e w' ⟨rfl, rfl⟩))
    go_ret2
    exact ⟨by rw [HF.out]; rfl, kept_alloc (Below.refl _ _) _⟩

end Go.Proofs.YtmgbbfbalmlpiaaGreatDoor
