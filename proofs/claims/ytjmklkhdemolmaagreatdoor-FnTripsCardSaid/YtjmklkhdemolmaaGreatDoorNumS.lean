/- A number read in decimal: the specification. -/
import Derived.Test.YtjmklkhdemolmaaGreatDoorNumI
import Derived.Test.YtjmklkhdemolmaaGreatDoorMrgA
namespace Go.Proofs.YtjmklkhdemolmaaGreatDoor
open Go.RowKit Go.Deep
set_option linter.unusedVariables false
set_option maxRecDepth 100000

theorem byt_list {s : ByteArray} {k : Nat} (h : k < s.size) : ∃ c : UInt8, s.data.toList[k]? = some c ∧ (c.toNat : Int) = byt s k :=
  ⟨s.data[k]'h, by simp, byt_at h⟩
/-- The number of the digits from a up to k. -/
def pv (s : ByteArray) (a k : Nat) : Int := (vD 0 ((s.data.toList.drop a).take (k - a)) : Nat)
/-- All are digits from a up to k. -/
def digs (s : ByteArray) (a k : Nat) : Prop := ∀ i, a ≤ i → i < k → 48 ≤ byt s i ∧ byt s i ≤ 57
theorem pv_zero (s : ByteArray) (a : Nat) : pv s a a = 0 := by unfold pv; rw [Nat.sub_self, List.take_zero]; rfl
theorem take_step {s : ByteArray} {a k : Nat} (ha : a ≤ k) (hk : k < s.size) : ∃ c : UInt8, (c.toNat : Int) = byt s k ∧ (s.data.toList.drop a).take (k + 1 - a) = (s.data.toList.drop a).take (k - a) ++ [c] := by
  obtain ⟨c, h1, h2⟩ := byt_list hk
  refine ⟨c, h2, ?_⟩
  rw [show k + 1 - a = (k - a) + 1 by omega, List.take_add_one, List.getElem?_drop, show a + (k - a) = k by omega, h1]
  rfl
theorem pv_step {s : ByteArray} {a k : Nat} (ha : a ≤ k) (hk : k < s.size) (h : 48 ≤ byt s k) : pv s a (k + 1) = 10 * pv s a k + (byt s k - 48) := by
  obtain ⟨c, h1, h2⟩ := take_step ha hk
  unfold pv
  rw [h2, vD_snoc]
  omega
theorem digs_all {s : ByteArray} {a : Nat} (k : Nat) (hk : k ≤ s.size) (h : digs s a k) : ((s.data.toList.drop a).take (k - a)).all isD = true := by
  induction k with
  | zero => simp
  | succ k ih =>
    by_cases ha : a ≤ k
    · obtain ⟨c, h1, h2⟩ := take_step ha (show k < s.size by omega)
      have h3 := h k ha (by omega)
      rw [h2, List.all_append, ih (by omega) (fun i h4 h5 => h i h4 (by omega))]
      have : isD c = true := isD_iff.2 (by omega)
      simp [this]
    · rw [show k + 1 - a = 0 by omega]; simp
theorem pv_bd {s : ByteArray} {a k : Nat} (hk : k ≤ s.size) (h : digs s a k) (h18 : k - a ≤ 18) : 0 ≤ pv s a k ∧ pv s a k < 1000000000000000000 := by
  have h1 := digs_all k hk h
  have h2 := vD_18 h1 (by simp; omega)
  unfold pv
  omega
theorem size_list (s : ByteArray) : s.data.toList.length = s.size := by simp
theorem take_all (s : ByteArray) (a : Nat) : (s.data.toList.drop a).take (s.size - a) = s.data.toList.drop a := List.take_of_length_le (by simp)
theorem head_drop {s : ByteArray} {a : Nat} (ha : a < s.size) : (s.data.toList.drop a).head? = some 48 ↔ byt s a = 48 := by
  obtain ⟨c, h1, h2⟩ := byt_list ha
  rw [List.head?_drop, h1, Option.some_inj, ← h2]
  constructor
  · rintro rfl; rfl
  · intro h; exact UInt8.toNat_inj.1 (by show c.toNat = 48; omega)
theorem dOf_neg {s : ByteArray} (h : 0 < s.size) (hb : byt s 0 = 45) : dOf s.data.toList = s.data.toList.drop 1 ∧ s.data.toList.head? = some 45 := by
  obtain ⟨c, h1, h2⟩ := byt_list h
  have hc : c = 45 := UInt8.toNat_inj.1 (by show c.toNat = 45; omega)
  have h3 : s.data.toList.head? = some 45 := by rw [List.head?_eq_getElem?, h1, hc]
  exact ⟨by unfold dOf; rw [if_pos h3, List.drop_one], h3⟩
theorem dOf_pos {s : ByteArray} (h : s.size < 1 ∨ (0 < s.size ∧ byt s 0 ≠ 45)) : dOf s.data.toList = s.data.toList.drop 0 ∧ ¬ s.data.toList.head? = some 45 := by
  have h3 : ¬ s.data.toList.head? = some 45 := by
    rcases h with h | ⟨h, hb⟩
    · have : s.data.toList = [] := List.eq_nil_of_length_eq_zero (by rw [size_list]; omega)
      rw [this]; simp
    · obtain ⟨c, h1, h2⟩ := byt_list h
      rw [List.head?_eq_getElem?, h1]
      intro e
      injection e with e
      subst e
      exact hb h2.symm
  exact ⟨by unfold dOf; rw [if_neg h3]; rfl, h3⟩
theorem num_no {s : ByteArray} {a : Nat} (hd : dOf s.data.toList = s.data.toList.drop a) (h : s.size ≤ a ∨ 18 < s.size - a ∨ (a < s.size ∧ byt s a = 48 ∧ 1 < s.size) ∨ (∃ i, a ≤ i ∧ i < s.size ∧ (byt s i < 48 ∨ 57 < byt s i))) : numV s.data.toList = 0 ∧ numB s.data.toList = false := by
  have : numL s.data.toList = none := by
    unfold numL
    rw [hd, if_neg]
    rintro ⟨h1, h2, h3, h4⟩
    rcases h with h | h | ⟨ha, h5, h6⟩ | ⟨i, hi1, hi2, h5⟩
    · exact h1 (List.drop_eq_nil_of_le (by rw [size_list]; exact h))
    · simp at h2; omega
    · exact h4 ⟨(head_drop ha).2 h5, by rw [size_list]; exact h6⟩
    · obtain ⟨c, g1, g2⟩ := byt_list hi2
      have hm : c ∈ s.data.toList.drop a := List.mem_of_getElem? (i := i - a) (by rw [List.getElem?_drop, show a + (i - a) = i by omega, g1])
      have := isD_iff.1 (List.all_eq_true.1 h3 c hm)
      omega
  unfold numV numB
  rw [this]
  exact ⟨rfl, rfl⟩
theorem num_end {s : ByteArray} {a : Nat} (hd : dOf s.data.toList = s.data.toList.drop a) (h1 : a < s.size) (h2 : s.size - a ≤ 18) (h3 : digs s a s.size) (h4 : ¬ (byt s a = 48 ∧ 1 < s.size)) :
    (s.data.toList.head? = some 45 → numV s.data.toList = - pv s a s.size ∧ numB s.data.toList = true) ∧ (¬ s.data.toList.head? = some 45 → numV s.data.toList = pv s a s.size ∧ numB s.data.toList = true) := by
  have ha := digs_all s.size (Nat.le_refl _) h3
  rw [take_all] at ha
  have hn : numL s.data.toList = some (if s.data.toList.head? = some 45 then -(pv s a s.size) else pv s a s.size) := by
    unfold numL pv
    rw [hd, take_all, if_pos]
    refine ⟨fun e => ?_, by simp; omega, ha, fun e => h4 ⟨(head_drop h1).1 e.1, by rw [← size_list]; exact e.2⟩⟩
    have := congrArg List.length e
    simp at this
    omega
  unfold numV numB
  rw [hn]
  refine ⟨fun h => ?_, fun h => ?_⟩
  · rw [if_pos h]; exact ⟨rfl, rfl⟩
  · rw [if_neg h]; exact ⟨rfl, rfl⟩
attribute [irreducible] pv digs

end Go.Proofs.YtjmklkhdemolmaaGreatDoor
