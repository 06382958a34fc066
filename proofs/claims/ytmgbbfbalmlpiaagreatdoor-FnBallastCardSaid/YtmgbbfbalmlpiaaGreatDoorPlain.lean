/- Plain definitions and laws on numbers and lists. No program. -/
import Derived.WalkKit
namespace Go.Proofs.YtmgbbfbalmlpiaaGreatDoor

theorem ret_int {k : IntKind} {a b : Int} (h : a = b) : Ending.returned (.int k a) = .returned (.int k b) := by rw [h]
theorem ret_bool {a b : Bool} (h : a = b) : Ending.returned (.bool a) = .returned (.bool b) := by rw [h]
theorem ret2 {k k' : IntKind} {a b a' b' : Int} (h : a = a') (h' : b = b') : Ending.returned (.tuple #[.int k a, .int k' b]) = .returned (.tuple #[.int k a', .int k' b']) := by rw [h, h']
theorem ret3 {k k' k'' : IntKind} {a b c a' b' c' : Int} (h : a = a') (h' : b = b') (h'' : c = c') : Ending.returned (.tuple #[.int k a, .int k' b, .int k'' c]) = .returned (.tuple #[.int k a', .int k' b', .int k'' c']) := by rw [h, h', h'']
def inB (n a b : Int) : Bool := decide (a ≤ n ∧ n ≤ b)
theorem inB_yes {n a b : Int} (h : a ≤ n) (h' : n ≤ b) : inB n a b = true := by simp [inB, h, h']
theorem inB_no {n a b : Int} (h : ¬ (a ≤ n ∧ n ≤ b)) : inB n a b = false := by simpa [inB] using h
theorem inB_iff {n a b : Int} : inB n a b = true ↔ a ≤ n ∧ n ≤ b := by simp [inB]
theorem inB_out {n a b : Int} (h : inB n a b = true) : a ≤ n ∧ n ≤ b := inB_iff.1 h

/-- The code of what is asked first (v), and of the numbers (f). -/
def askCode (v f : Bool) : Int := if v then (if f then 0 else 2) else 1

def allTo (p : Nat → Bool) : Nat → Bool
  | 0 => true
  | n + 1 => allTo p n && p n
theorem allTo_yes {p : Nat → Bool} {n : Nat} (h : ∀ i, i < n → p i = true) : allTo p n = true := by
  induction n with
  | zero => rfl
  | succ n ih => simp [allTo, ih (fun i hi => h i (by omega)), h n (by omega)]
theorem allTo_out {p : Nat → Bool} {n : Nat} (h : allTo p n = true) : ∀ i, i < n → p i = true := by
  induction n with
  | zero => intro i hi; omega
  | succ n ih =>
    simp only [allTo, Bool.and_eq_true] at h
    intro i hi
    by_cases e : i = n
    · rw [e]; exact h.2
    · exact ih h.1 i (by omega)
theorem allTo_no {p : Nat → Bool} {n k : Nat} (hk : k < n) (h : p k = false) : allTo p n = false := by
  cases e : allTo p n with
  | false => rfl
  | true => rw [allTo_out e k hk] at h; cases h
theorem allTo_congr {p q : Nat → Bool} {n : Nat} (h : ∀ i, i < n → p i = q i) : allTo p n = allTo q n := by
  induction n with
  | zero => rfl
  | succ n ih => simp [allTo, ih (fun i hi => h i (by omega)), h n (by omega)]

/-- The first k < n of which p holds, else n. -/
def firstTo (p : Nat → Bool) : Nat → Nat
  | 0 => 0
  | n + 1 => if firstTo p n < n then firstTo p n else if p n then n else n + 1
theorem firstTo_eq {p : Nat → Bool} {n k : Nat} (hk : k ≤ n) (hb : ∀ i, i < k → p i = false) (ha : k < n → p k = true) : firstTo p n = k := by
  induction n generalizing k with
  | zero => simp only [firstTo]; omega
  | succ n ih =>
    simp only [firstTo]
    by_cases e : k ≤ n
    · by_cases e' : k = n
      · subst e'
        rw [ih (k := k) (Nat.le_refl _) hb (fun h => absurd h (Nat.lt_irrefl _)), if_neg (Nat.lt_irrefl _), ha (by omega), if_pos rfl]
      · rw [ih (k := k) e hb (fun h => ha (by omega)), if_pos (by omega)]
    · have e1 : k = n + 1 := by omega
      subst e1
      rw [ih (k := n) (Nat.le_refl _) (fun i hi => hb i (by omega)) (fun h => absurd h (Nat.lt_irrefl _)), if_neg (Nat.lt_irrefl _), hb n (by omega)]
      simp
theorem firstTo_le (p : Nat → Bool) (n : Nat) : firstTo p n ≤ n := by
  induction n with
  | zero => simp [firstTo]
  | succ n ih =>
    simp only [firstTo]
    split
    · omega
    · split <;> omega
theorem firstTo_spec (p : Nat → Bool) (n : Nat) : (∀ i, i < firstTo p n → p i = false) ∧ (firstTo p n < n → p (firstTo p n) = true) := by
  induction n with
  | zero => simp [firstTo]
  | succ n ih =>
    simp only [firstTo]
    by_cases h : firstTo p n < n
    · rw [if_pos h]; exact ⟨ih.1, fun _ => ih.2 h⟩
    · have := firstTo_le p n
      have e : firstTo p n = n := by omega
      rw [if_neg h]
      rw [e] at ih
      by_cases hp : p n = true
      · rw [if_pos hp]; exact ⟨ih.1, fun _ => hp⟩
      · rw [if_neg hp]
        refine ⟨fun i hi => ?_, fun h => by omega⟩
        by_cases e' : i = n
        · rw [e']; simpa using hp
        · exact ih.1 i (by omega)
/-- As Go's searches say it: the index, or -1. -/
def idxTo (p : Nat → Bool) (n : Nat) : Int := if firstTo p n < n then (firstTo p n : Int) else -1
theorem idxTo_at {p : Nat → Bool} {n k : Nat} (hk : k < n) (hb : ∀ i, i < k → p i = false) (ha : p k = true) : idxTo p n = k := by
  unfold idxTo; rw [firstTo_eq (Nat.le_of_lt hk) hb (fun _ => ha), if_pos hk]
theorem idxTo_none {p : Nat → Bool} {n : Nat} (hb : ∀ i, i < n → p i = false) : idxTo p n = -1 := by
  unfold idxTo; rw [firstTo_eq (Nat.le_refl n) hb (fun h => absurd h (Nat.lt_irrefl _)), if_neg (Nat.lt_irrefl _)]
theorem idxTo_ge {p : Nat → Bool} {n : Nat} : decide (0 ≤ idxTo p n) = !allTo (fun i => !p i) n := by
  by_cases h : firstTo p n < n
  · have h1 := (firstTo_spec p n).2 h
    rw [allTo_no h (by simp [h1])]
    simp [idxTo, h]
  · have h1 := (firstTo_spec p n).1
    have h2 := firstTo_le p n
    rw [allTo_yes (fun i hi => by simp [h1 i (by omega)])]
    simp [idxTo, h]
theorem idxTo_bounds (p : Nat → Bool) (n : Nat) : -1 ≤ idxTo p n ∧ idxTo p n < n ∨ (n = 0 ∧ idxTo p n = -1) := by
  unfold idxTo
  by_cases h : firstTo p n < n
  · rw [if_pos h]; left; omega
  · rw [if_neg h]; by_cases e : n = 0
    · right; exact ⟨e, rfl⟩
    · left; omega

theorem mul_bd {x y a b : Int} (h0 : 0 ≤ x) (h1 : x ≤ a) (h2 : 0 ≤ y) (h3 : y ≤ b) : 0 ≤ x * y ∧ x * y ≤ a * b :=
  ⟨Int.mul_nonneg h0 h2, Int.mul_le_mul h1 h3 h2 (by omega)⟩

/-- The nearest quotient, halves away from nought, for b > 0. -/
def rnd (a b : Int) : Int := if a < 0 then -((b - 2 * a) / (2 * b)) else (2 * a + b) / (2 * b)

theorem tdiv_pos' {a b : Int} (ha : 0 ≤ a) : a.tdiv b = a / b := Int.tdiv_eq_ediv_of_nonneg ha
theorem near_pos {a b : Int} (ha : 0 ≤ a) (hb : 1 ≤ b) : (if b - a % b ≤ a % b then a / b + 1 else a / b) = rnd a b := by
  have h1 := Int.mul_ediv_add_emod a b
  have h2 := Int.emod_nonneg a (show b ≠ 0 by omega)
  have h3 := Int.emod_lt_of_pos a (show 0 < b by omega)
  have hr : rnd a b = (2 * a + b) / (2 * b) := by unfold rnd; rw [if_neg (by omega)]
  rw [hr]
  generalize a / b = q at *
  generalize a % b = r at *
  subst h1
  by_cases h : b - r ≤ r
  · rw [if_pos h]
    have e : 2 * (b * q + r) + b = (2 * r - b) + (2 * b) * (q + 1) := by
      rw [Int.mul_add, Int.mul_add, Int.mul_assoc]; omega
    rw [e, Int.add_mul_ediv_left _ _ (by omega), Int.ediv_eq_zero_of_lt (by omega) (by omega)]; omega
  · rw [if_neg h]
    have e : 2 * (b * q + r) + b = (2 * r + b) + (2 * b) * q := by
      rw [Int.mul_add, Int.mul_assoc]; omega
    rw [e, Int.add_mul_ediv_left _ _ (by omega), Int.ediv_eq_zero_of_lt (by omega) (by omega)]; omega
theorem rnd_neg {a b : Int} (ha : a < 0) : rnd a b = - rnd (-a) b := by
  unfold rnd
  rw [if_pos ha, if_neg (by omega)]
  congr 2
  omega
theorem rnd_bd {a b : Int} (ha : 0 ≤ a) (hb : 1 ≤ b) : 0 ≤ rnd a b ∧ rnd a b ≤ a + 1 := by
  unfold rnd
  rw [if_neg (by omega)]
  refine ⟨Int.ediv_nonneg (by omega) (by omega), ?_⟩
  have h1 : (2 * a + b) / (2 * b) < a + 2 := by
    refine Int.ediv_lt_of_lt_mul (by omega) ?_
    have h2 : a * 1 ≤ a * b := Int.mul_le_mul_of_nonneg_left hb ha
    have h3 : (a + 2) * (2 * b) = 2 * (a * b) + 4 * b := by
      rw [Int.add_mul, ← Int.mul_assoc, Int.mul_comm a 2, Int.mul_assoc]; omega
    omega
  omega

def vSpan (a b : Int) : Bool := inB a 0 1440 && inB b 0 1440 && decide (a ≤ b)
theorem vSpan_out {a b : Int} (h : vSpan a b = true) : 0 ≤ a ∧ a ≤ b ∧ b ≤ 1440 := by
  simp only [vSpan, Bool.and_eq_true, inB_iff, decide_eq_true_eq] at h; omega
theorem vSpan_alt (a b : Int) : vSpan a b = (inB a 0 1440 && inB b a 1440) := by
  rw [Bool.eq_iff_iff]; simp only [vSpan, Bool.and_eq_true, inB_iff, decide_eq_true_eq]; omega
theorem vSpan_cases (a b : Int) : (inB a 0 1440 = false ∧ Go.RowKit.Hid (vSpan a b = false)) ∨ (inB a 0 1440 = true ∧ inB b 0 1440 = false ∧ Go.RowKit.Hid (vSpan a b = false)) ∨
    (inB a 0 1440 = true ∧ inB b 0 1440 = true ∧ Go.RowKit.Hid (vSpan a b = decide (a ≤ b))) := by
  have key : vSpan a b = (inB a 0 1440 && inB b 0 1440 && decide (a ≤ b)) := rfl
  cases h1 : inB a 0 1440
  · exact .inl ⟨rfl, by rw [h1] at key; exact key⟩
  · cases h2 : inB b 0 1440
    · exact .inr (.inl ⟨rfl, rfl, by rw [h1, h2] at key; exact key⟩)
    · exact .inr (.inr ⟨rfl, rfl, by rw [h1, h2] at key; show vSpan a b = _; simpa using key⟩)
attribute [irreducible] rnd vSpan

end Go.Proofs.YtmgbbfbalmlpiaaGreatDoor
