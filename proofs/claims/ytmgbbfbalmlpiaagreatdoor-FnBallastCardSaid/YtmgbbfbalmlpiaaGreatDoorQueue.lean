/- Contracts on queues. -/
import Derived.Test.YtmgbbfbalmlpiaaGreatDoorFuncs
namespace Go.Proofs.YtmgbbfbalmlpiaaGreatDoor
open Go.RowKit Go.Deep

def vShare (one two seats : Int) : Bool := inB one 0 100000 && inB two 0 100000 && inB seats 1 1000
def share (one two seats : Int) : Int × Int × Int :=
  if vShare one two seats then
    if one + two = 0 then (0, 0, 0)
    else if seats * one / (one + two) + seats * two / (one + two) < seats then
      if two ≤ one then (min (seats * one / (one + two) + 1) one, min (seats * two / (one + two)) two, 0)
      else (min (seats * one / (one + two)) one, min (seats * two / (one + two) + 1) two, 0)
    else (min (seats * one / (one + two)) one, min (seats * two / (one + two)) two, 0)
  else (0, 0, 2)

theorem share_no {one two seats : Int} (h : ¬ vShare one two seats = true) :
    (inB one 0 100000 = false ∧ Hid (share one two seats = (0, 0, 2))) ∨ (inB one 0 100000 = true ∧ inB two 0 100000 = false ∧ Hid (share one two seats = (0, 0, 2))) ∨
      (inB one 0 100000 = true ∧ inB two 0 100000 = true ∧ inB seats 1 1000 = false ∧ Hid (share one two seats = (0, 0, 2))) := by
  have HF : Hid (share one two seats = (0, 0, 2)) := by unfold share; rw [if_neg h]; rfl
  unfold vShare at h
  cases h1 : inB one 0 100000 <;> cases h2 : inB two 0 100000 <;> cases h3 : inB seats 1 1000 <;> simp_all
theorem share_zero {one two seats : Int} (h : vShare one two seats = true) (h0 : one + two = 0) :
    one = 0 ∧ two = 0 ∧ inB one 0 100000 = true ∧ inB two 0 100000 = true ∧ inB seats 1 1000 = true ∧ share one two seats = (0, 0, 0) := by
  have h' := h
  simp only [vShare, Bool.and_eq_true, inB_iff] at h'
  refine ⟨by omega, by omega, inB_iff.2 h'.1.1, inB_iff.2 h'.1.2, inB_iff.2 h'.2, ?_⟩
  unfold share; rw [if_pos h, if_pos h0]
theorem share_yes {one two seats : Int} (h : vShare one two seats = true) (h0 : ¬ one + two = 0) :
    ((seats * one / (one + two) + seats * two / (one + two) < seats ∧ two ≤ one ∧ Hid (share one two seats = (min (seats * one / (one + two) + 1) one, min (seats * two / (one + two)) two, 0))) ∨
    (seats * one / (one + two) + seats * two / (one + two) < seats ∧ one < two ∧ Hid (share one two seats = (min (seats * one / (one + two)) one, min (seats * two / (one + two) + 1) two, 0))) ∨
    (seats ≤ seats * one / (one + two) + seats * two / (one + two) ∧ Hid (share one two seats = (min (seats * one / (one + two)) one, min (seats * two / (one + two)) two, 0)))) := by
  have HF : share one two seats = share one two seats := rfl
  rw [show share one two seats = _ from rfl]
  unfold share
  rw [if_pos h, if_neg h0]
  by_cases hs : seats * one / (one + two) + seats * two / (one + two) < seats
  · by_cases hg : two ≤ one
    · exact .inl ⟨hs, hg, by rw [if_pos hs, if_pos hg]; rfl⟩
    · exact .inr (.inl ⟨hs, by omega, by rw [if_pos hs, if_neg hg]; rfl⟩)
  · exact .inr (.inr ⟨by omega, by rw [if_neg hs]; rfl⟩)
theorem share_facts {one two seats : Int} (h : vShare one two seats = true) (_h0 : ¬ one + two = 0) :
    inB one 0 100000 = true ∧ inB two 0 100000 = true ∧ inB seats 1 1000 = true ∧ 0 ≤ one ∧ one ≤ 100000 ∧ 0 ≤ two ∧ two ≤ 100000 ∧ 1 ≤ seats ∧ seats ≤ 1000 ∧
    0 ≤ seats * one ∧ seats * one ≤ 100000000 ∧ 0 ≤ seats * two ∧ seats * two ≤ 100000000 ∧ 0 ≤ seats * one / (one + two) ∧ seats * one / (one + two) ≤ 100000000 ∧ 0 ≤ seats * two / (one + two) ∧ seats * two / (one + two) ≤ 100000000 := by
  have h' := h
  simp only [vShare, Bool.and_eq_true, inB_iff] at h'
  obtain ⟨⟨⟨a0, a1⟩, b0, b1⟩, c0, c1⟩ := h'
  have m1 := mul_bd (show 0 ≤ seats by omega) c1 a0 a1
  have m2 := mul_bd (show 0 ≤ seats by omega) c1 b0 b1
  have q1 : 0 ≤ seats * one / (one + two) := Int.ediv_nonneg m1.1 (by omega)
  have q2 : seats * one / (one + two) ≤ seats * one := Int.ediv_le_self _ m1.1
  have q3 : 0 ≤ seats * two / (one + two) := Int.ediv_nonneg m2.1 (by omega)
  have q4 : seats * two / (one + two) ≤ seats * two := Int.ediv_le_self _ m2.1
  exact ⟨inB_yes a0 a1, inB_yes b0 b1, inB_yes c0 c1, a0, a1, b0, b1, c0, c1, m1.1, by omega, m2.1, by omega, q1, by omega, q3, by omega⟩

def vArr (n : Nat) (z : Nat → Int) : Bool := decide (1 ≤ n ∧ n ≤ 60) && allTo (fun i => inB (z i) 0 1000) n

end Go.Proofs.YtmgbbfbalmlpiaaGreatDoor
