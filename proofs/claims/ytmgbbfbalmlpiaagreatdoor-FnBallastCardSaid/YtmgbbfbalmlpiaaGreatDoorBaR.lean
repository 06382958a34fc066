/- A basin's text read back; trips that have the water of single ones. No program. -/
import Derived.Test.YtmgbbfbalmlpiaaGreatDoorRbW
import Derived.Test.YtmgbbfbalmlpiaaGreatDoorBasinT
import Derived.Test.YtmgbbfbalmlpiaaGreatDoorBaP
import Derived.Test.YtmgbbfbalmlpiaaGreatDoorTrips
namespace Go.Proofs.YtmgbbfbalmlpiaaGreatDoor
open Go.RowKit Go.Deep
set_option linter.unusedVariables false
set_option maxRecDepth 100000

theorem dig_ne44 {n : Nat} : ∀ c ∈ Lib.decDigits n, c ≠ 44 := by
  intro c hc e
  have := isD_iff.1 (List.all_eq_true.1 (dec_digits n) c hc)
  subst e
  have : (44 : UInt8).toNat = 44 := rfl
  omega
theorem basin_list {a b c d : Int} (h : vBasin a b c d = true) : basinS a b c d = bsL (Lib.decDigits a.toNat ++ 44 :: (Lib.decDigits b.toNat ++ 44 :: (Lib.decDigits c.toNat ++ 44 :: Lib.decDigits d.toNat))) := by
  rw [basinS_yes h]
  have e : ∀ n, decS n = bsL (Lib.decDigits n) := fun n => by unfold decS; rfl
  have e0 : f4 a b c d 0 = a := by unfold f4; rfl
  have e1 : f4 a b c d 1 = b := by unfold f4; rfl
  have e2 : f4 a b c d 2 = c := by unfold f4; rfl
  have e3 : f4 a b c d 3 = d := by unfold f4; rfl
  rw [lsS_succ (by omega), lsS_succ (by omega), lsS_succ (by omega), lsS_one, e0, e1, e2, e3, e, e, e, e, show (⟨#[44]⟩ : ByteArray) = bsL [44] from rfl, show (⟨#[]⟩ : ByteArray) = bsL [] from rfl]
  simp only [bsL_append]
  simp
theorem basin_spl {a b c d : Int} (h : vBasin a b c d = true) : spl 44 [] (basinS a b c d).data.toList = [Lib.decDigits a.toNat, Lib.decDigits b.toNat, Lib.decDigits c.toNat, Lib.decDigits d.toNat] := by
  rw [basin_list h]
  show spl 44 [] (Lib.decDigits a.toNat ++ 44 :: (Lib.decDigits b.toNat ++ 44 :: (Lib.decDigits c.toNat ++ 44 :: Lib.decDigits d.toNat))) = _
  rw [spl_first _ _ _ dig_ne44, spl_first _ _ _ dig_ne44, spl_first _ _ _ dig_ne44, spl_plain _ _ dig_ne44]
  simp
theorem basin_back {a b c d : Int} (h : vBasin a b c d = true) :
    bzOk (basinS a b c d) = true ∧ bzV (basinS a b c d) 0 = a ∧ bzV (basinS a b c d) 1 = b ∧ bzV (basinS a b c d) 2 = c ∧ bzV (basinS a b c d) 3 = d ∧ (basinS a b c d).size ≤ 1048576 := by
  have ho := vBasin_out h
  have hsp := basin_spl h
  have hnd : ¬ basinS a b c d = ⟨#[45]⟩ := by
    intro e
    rw [e] at hsp
    have e2 : spl 44 [] (⟨#[45]⟩ : ByteArray).data.toList = [[45]] := by
      show spl 44 [] [45] = _
      rw [spl_plain _ _ (by simp)]
      rfl
    rw [e2] at hsp
    simp at hsp
  have n0 := num_dec a.toNat (by omega)
  have n1 := num_dec b.toNat (by omega)
  have n2 := num_dec c.toNat (by omega)
  have n3 := num_dec d.toNat (by omega)
  have f0 : ((a.toNat : Nat) : Int) = a := by omega
  have f1 : ((b.toNat : Nat) : Int) = b := by omega
  have f2 : ((c.toNat : Nat) : Int) = c := by omega
  have f3 : ((d.toNat : Nat) : Int) = d := by omega
  rw [f0] at n0
  rw [f1] at n1
  rw [f2] at n2
  rw [f3] at n3
  have hB : rlB (basinS a b c d) = true := by
    rw [rl_iff hnd, hsp]
    refine ⟨by simp, fun x hx => ?_⟩
    simp only [List.mem_cons, List.not_mem_nil, or_false] at hx
    rcases hx with rfl | rfl | rfl | rfl
    · exact ⟨n0.2, by rw [n0.1]; exact inB_yes (by omega) (by omega)⟩
    · exact ⟨n1.2, by rw [n1.1]; exact inB_yes (by omega) (by omega)⟩
    · exact ⟨n2.2, by rw [n2.1]; exact inB_yes (by omega) (by omega)⟩
    · exact ⟨n3.2, by rw [n3.1]; exact inB_yes (by omega) (by omega)⟩
  have hL : rlL (basinS a b c d) = [a, b, c, d] := by
    rw [rl_of hnd, hB, if_pos rfl]
    unfold numsS
    rw [hsp]
    simp only [List.map_cons, List.map_nil, n0.1, n1.1, n2.1, n3.1]
  have z0 : gz [a, b, c, d] 0 = a := by unfold gz; rfl
  have z1 : gz [a, b, c, d] 1 = b := by unfold gz; rfl
  have z2 : gz [a, b, c, d] 2 = c := by unfold gz; rfl
  have z3 : gz [a, b, c, d] 3 = d := by unfold gz; rfl
  have hK : bzOk (basinS a b c d) = true := by
    rw [bz_four (by rw [hL]; rfl), hL, z0, z1, z2, z3]
    exact h
  refine ⟨hK, by rw [bz_yes hK, hL, z0], by rw [bz_yes hK, hL, z1], by rw [bz_yes hK, hL, z2], by rw [bz_yes hK, hL, z3], ?_⟩
  rw [basin_list h, bsL_size]
  have g : ∀ n : Nat, n ≤ 10000000 → (Lib.decDigits n).length ≤ 10 := fun n hn => by
    have h8 : (Lib.decDigits n).length = Lib.nDigits n := by rw [Lib.decDigits_eq]; simp
    have h9 := nd_le 9 n (Nat.lt_of_le_of_lt hn (by decide))
    omega
  have g0 := g a.toNat (by omega)
  have g1 := g b.toNat (by omega)
  have g2 := g c.toNat (by omega)
  have g3 := g d.toNat (by omega)
  simp only [List.length_append, List.length_cons]
  omega

/-- The waters of trips that are told: each is that of a single trip. -/
theorem trips_ok {t r s p : Int} {n : Nat} {a : Nat → Int} {m : Nat} {b : Nat → Int} {rp gr nd : Int} (h : (twRes t r s p n a m b rp gr nd).2 = 0) :
    vBasin t r s p = true ∧ m = n ∧ (twRes t r s p n a m b rp gr nd).1 = n ∧ n ≤ 24 ∧ ∀ i, i < n → wfor t r s p (a i) (b i) rp gr nd = (twF t a b rp gr nd i, 0) := by
  unfold twRes at h ⊢
  split at h
  · rename_i hv
    rw [if_pos hv]
    split at h
    · rename_i hnm
      rw [if_pos hnm]
      subst hnm
      split at h
      · rename_i hr
        rw [if_pos hr]
        cases hk : twOk n (twF t a b rp gr nd) t
        · rw [hk, twEnd_no] at h; simp at h
        · rw [twEnd_yes]
          have ho := twRange_out hr
          refine ⟨hv, rfl, rfl, ho.1, fun i hi => ?_⟩
          have hr2 := hr
          unfold twRange twPair at hr2
          simp only [Bool.and_eq_true] at hr2
          have hp := allTo_out hr2.2 i hi
          simp only [Bool.and_eq_true] at hp
          have h1 : (inB (a i) 0 100000 && vThree (b i) rp gr) = true := by
            have h3 := hr2.1.1.2
            unfold vThree at h3 ⊢
            simp only [Bool.and_eq_true] at h3 ⊢
            exact ⟨hp.1, ⟨hp.2, h3.1.2⟩, h3.2⟩
          rw [wfor_yes hv h1 hr2.1.2]
          unfold twOk at hk
          have h5 := allTo_out hk i hi
          simp only [decide_eq_true_eq] at h5
          unfold twF at h5 ⊢
          rw [wfR_yes h5]
      · simp at h
    · simp at h
  · simp at h

theorem trips_bad {t r s p : Int} {n : Nat} {a : Nat → Int} {m : Nat} {b : Nat → Int} {rp gr nd : Int} (h : (twRes t r s p n a m b rp gr nd).2 ≠ 0) : (twRes t r s p n a m b rp gr nd).1 = 0 := by
  unfold twRes at h ⊢
  split
  · rename_i hv
    rw [if_pos hv] at h
    split
    · rename_i hnm
      rw [if_pos hnm] at h
      split
      · rename_i hr
        rw [if_pos hr] at h
        cases hk : twOk n (twF t a b rp gr nd) t
        · rw [twEnd_no]
        · rw [hk, twEnd_yes] at h; exact absurd rfl h
      · rfl
    · rfl
  · rfl
theorem pull_at {tp bt rp gr : Int} (h : vThree bt rp gr = true) : (pull tp bt rp gr = (pullI tp bt rp gr, 0) ∧ (0 ≤ tp ∧ tp ≤ 100000)) ∨ pull tp bt rp gr = (0, 2) := by
  unfold pull
  cases hi : inB tp 0 100000
  · exact .inr rfl
  · rw [h]; exact .inl ⟨rfl, inB_out hi⟩

end Go.Proofs.YtmgbbfbalmlpiaaGreatDoor
