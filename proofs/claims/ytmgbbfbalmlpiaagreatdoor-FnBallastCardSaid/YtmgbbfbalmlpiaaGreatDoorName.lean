/- Names, as the program and the reference ask them; the order of texts. -/
import Derived.Test.YtmgbbfbalmlpiaaGreatDoorAggs
import Derived.WalkLawsBesides
import Derived.Laws.IdiomStrings
namespace Go.Proofs.YtmgbbfbalmlpiaaGreatDoor
open Go.RowKit Go.Deep
set_option linter.unusedVariables false

/-- Byte k of a text. -/
def byt (s : ByteArray) (k : Nat) : Int := ((s.data.getD k 0).toNat : Int)
theorem byt_bd (s : ByteArray) (k : Nat) : 0 ≤ byt s k ∧ byt s k ≤ 255 := by
  unfold byt
  have := (s.data.getD k 0).toNat_lt
  omega
theorem byt_at {s : ByteArray} {k : Nat} (h : k < s.data.size) : ((s.data[k].toNat : Nat) : Int) = byt s k := by simp [byt, Array.getD]; rw [dif_pos (show k < s.size from h)]
theorem byt_get {s : ByteArray} {k : Nat} (h : k < s.size) : ((s[k].toNat : Nat) : Int) = byt s k := byt_at (s := s) (k := k) h
attribute [irreducible] byt
def smallC (c : Int) : Bool := decide (97 ≤ c ∧ c ≤ 122)
def digitC (c : Int) : Bool := decide (48 ≤ c ∧ c ≤ 57)
def nameAt (s : ByteArray) (k : Nat) : Bool := smallC (byt s k) || (decide (0 < k) && digitC (byt s k))
theorem nameAt_yes {s : ByteArray} {k : Nat} (h : (97 ≤ byt s k ∧ byt s k ≤ 122) ∨ (48 ≤ byt s k ∧ byt s k ≤ 57 ∧ 0 < k)) : nameAt s k = true := by
  simp only [nameAt, smallC, digitC, Bool.or_eq_true, Bool.and_eq_true, decide_eq_true_eq]; omega
theorem nameAt_no {s : ByteArray} {k : Nat} (h : byt s k < 48 ∨ (57 < byt s k ∧ byt s k < 97) ∨ 122 < byt s k ∨ (byt s k < 97 ∧ k ≤ 0)) : nameAt s k = false := by
  cases e : nameAt s k
  · rfl
  · simp only [nameAt, smallC, digitC, Bool.or_eq_true, Bool.and_eq_true, decide_eq_true_eq] at e; omega
def isName (s : ByteArray) : Bool := decide (1 ≤ s.size ∧ s.size ≤ 10) && allTo (nameAt s) s.size
theorem isName_size {s : ByteArray} (h : s.size < 1 ∨ 10 < s.size) : isName s = false := by
  have : decide (1 ≤ s.size ∧ s.size ≤ 10) = false := by simp; omega
  unfold isName; rw [this]; rfl
theorem isName_no {s : ByteArray} {k : Nat} (hk : k < s.size) (h : nameAt s k = false) : isName s = false := by unfold isName; rw [allTo_no hk h, Bool.and_false]
theorem isName_yes {s : ByteArray} (h1 : 1 ≤ s.size) (h2 : s.size ≤ 10) (h : ∀ i, i < s.size → nameAt s i = true) : isName s = true := by
  have : decide (1 ≤ s.size ∧ s.size ≤ 10) = true := by simp; omega
  unfold isName; rw [allTo_yes h, this]; rfl
theorem isName_out {s : ByteArray} (h : isName s = true) : s.size ≤ 10 := by
  unfold isName at h
  simp only [Bool.and_eq_true, decide_eq_true_eq] at h
  exact h.1.2
attribute [irreducible] isName nameAt

end Go.Proofs.YtmgbbfbalmlpiaaGreatDoor
