/- What the law on ballast wants: the water that is found is just enough, and filling takes as long as told. No program. -/
import Derived.Test.YtmgbbfbalmlpiaaGreatDoorWaterFor
namespace Go.Proofs.YtmgbbfbalmlpiaaGreatDoor
open Go.RowKit Go.Deep
set_option linter.unusedVariables false
set_option maxRecDepth 100000

theorem water_no {t r s p tp bt rp gr nd : Int} (h : (wfor t r s p tp bt rp gr nd).2 ≠ 0) : (wfor t r s p tp bt rp gr nd).1 = 0 := by
  unfold wfor at h ⊢
  split
  · rename_i h0
    rw [if_pos h0] at h
    unfold wfR at h ⊢
    split
    · rename_i h1; rw [if_pos h1] at h; exact absurd rfl h
    · rfl
  · rfl
theorem ask_yes {v f : Bool} (h : askCode v f = 0) : v = true ∧ f = true := by
  unfold askCode at h
  cases v <;> cases f <;> simp at h ⊢
theorem water_ok {t r s p tp bt rp gr nd : Int} (h : (wfor t r s p tp bt rp gr nd).2 = 0) :
    vBasin t r s p = true ∧ vThree bt rp gr = true ∧ (0 ≤ (wfor t r s p tp bt rp gr nd).1 ∧ (wfor t r s p tp bt rp gr nd).1 ≤ t) ∧
    nd ≤ pullI (tp + (wfor t r s p tp bt rp gr nd).1) bt rp gr ∧ (0 < (wfor t r s p tp bt rp gr nd).1 → pullI (tp + (wfor t r s p tp bt rp gr nd).1 - 1) bt rp gr < nd) := by
  have h0 : askCode (vBasin t r s p) ((inB tp 0 100000 && vThree bt rp gr) && inB nd 0 1000000) = 0 := by
    unfold wfor at h
    split at h
    · rename_i h0; exact h0
    · rename_i h0; exact absurd h h0
  obtain ⟨hv, hf⟩ := ask_yes h0
  rw [Bool.and_eq_true, Bool.and_eq_true] at hf
  have hb := vBasin_out hv
  have e : wfor t r s p tp bt rp gr nd = wfR t (wtF t tp bt rp gr nd) := by unfold wfor; rw [if_pos h0]
  rw [e] at h ⊢
  have hle : wtF t tp bt rp gr nd ≤ t := by
    unfold wfR at h
    split at h
    · rename_i h1; exact h1
    · simp at h
  have e2 : wfR t (wtF t tp bt rp gr nd) = (wtF t tp bt rp gr nd, 0) := by unfold wfR; rw [if_pos hle]
  rw [e2]
  show vBasin t r s p = true ∧ vThree bt rp gr = true ∧ (0 ≤ wtF t tp bt rp gr nd ∧ wtF t tp bt rp gr nd ≤ t) ∧ nd ≤ pullI (tp + wtF t tp bt rp gr nd) bt rp gr ∧ (0 < wtF t tp bt rp gr nd → pullI (tp + wtF t tp bt rp gr nd - 1) bt rp gr < nd)
  obtain ⟨s1, s2⟩ := firstTo_spec (wtP tp bt rp gr nd) (t + 1).toNat
  have hF : wtF t tp bt rp gr nd = (firstTo (wtP tp bt rp gr nd) (t + 1).toNat : Int) := by unfold wtF; rfl
  rw [hF] at hle ⊢
  generalize firstTo (wtP tp bt rp gr nd) (t + 1).toNat = N at *
  have hy := s2 (by omega)
  have key : ∀ j : Nat, wtP tp bt rp gr nd j = decide (nd ≤ pullI (tp + j) bt rp gr) := fun j => by unfold wtP; rfl
  rw [key, decide_eq_true_iff] at hy
  refine ⟨hv, hf.1.2, ⟨by omega, hle⟩, hy, fun h0 => ?_⟩
  have := s1 (N - 1) (by omega)
  rw [key, decide_eq_false_iff_not, show tp + ((N - 1 : Nat) : Int) = tp + (N : Int) - 1 by omega] at this
  omega
/-- How long the filling takes. -/
theorem fill_ok {t r s p n : Int} (hv : vBasin t r s p = true) (hn : 0 ≤ n ∧ n ≤ t) : (fillS t r s p n).2 = 0 ∧ n ≤ (fillS t r s p n).1 * r ∧ (0 < (fillS t r s p n).1 → ((fillS t r s p n).1 - 1) * r < n) ∧ 0 ≤ (fillS t r s p n).1 ∧ (fillS t r s p n).1 ≤ 20000 := by
  have hb := vBasin_out hv
  have h0 : askCode (vBasin t r s p) (inB n 0 20000) = 0 := by rw [hv, inB_yes hn.1 (by omega)]; rfl
  have e : fillS t r s p n = ((n + r - 1) / r, 0) := by unfold fillS; rw [if_pos h0]
  rw [e]
  have hr : 0 < r := by omega
  have h1 := Int.emod_add_mul_ediv (n + r - 1) r
  have h2 := Int.emod_nonneg (n + r - 1) (show r ≠ 0 by omega)
  have h3 := Int.emod_lt_of_pos (n + r - 1) hr
  have h4 : 0 ≤ (n + r - 1) / r := Int.ediv_nonneg (by omega) (by omega)
  have h5 : (n + r - 1) / r ≤ 20000 := by
    refine Int.ediv_le_of_le_mul hr ?_
    have : (20000 : Int) ≤ 20000 * r := by omega
    have : 20000 * 1 ≤ 20000 * r := by omega
    by_cases hq : n ≤ 20000 * r - r + 1
    · omega
    · omega
  generalize (n + r - 1) / r = q at *
  rw [Int.mul_comm r q] at h1
  show (0 : Int) = 0 ∧ n ≤ q * r ∧ (0 < q → (q - 1) * r < n) ∧ 0 ≤ q ∧ q ≤ 20000
  refine ⟨rfl, by omega, fun _ => ?_, h4, h5⟩
  rw [Int.sub_mul]
  omega

end Go.Proofs.YtmgbbfbalmlpiaaGreatDoor
