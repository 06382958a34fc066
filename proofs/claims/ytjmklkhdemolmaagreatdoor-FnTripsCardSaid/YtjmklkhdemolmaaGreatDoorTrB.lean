/- What the law on trips asks of fares beside each other: their names differ, and the least number of rides. Plain, no program. -/
import Derived.Test.YtjmklkhdemolmaaGreatDoorTrP
import Derived.Test.YtjmklkhdemolmaaGreatDoorBreak
import Derived.Lib.MinMaxS
namespace Go.Proofs.YtjmklkhdemolmaaGreatDoor
open Go.RowKit Go.Deep
set_option linter.unusedVariables false
set_option maxRecDepth 100000

theorem eqS_iff {s t : ByteArray} : eqS s t = true ↔ s.toList = t.toList := by unfold eqS; simp
theorem vFares_lt {m : Nat} {a : Nat → ByteArray} {b c d : Nat → Int} (h : vFares m a b c d = true) : ∀ k i, i < k → k < m → (a i).toList < (a k).toList := by
  have hs : ∀ k, 0 < k → k < m → (a (k - 1)).toList < (a k).toList := fun k h0 hk => by
    unfold vFares vFaAt leS at h
    simp only [Bool.and_eq_true] at h
    have h1 := allTo_out h.1 k hk
    simp only [Bool.and_eq_true] at h1
    have h2 := h1.2
    rw [show decide (k = 0) = false by simp; omega] at h2
    simpa [Proofs.bytesLess_eq] using h2
  intro k
  induction k with
  | zero => intro i hi; omega
  | succ k ih =>
    intro i hi hk
    have h1 := hs (k + 1) (by omega) hk
    rw [Nat.add_sub_cancel] at h1
    by_cases e : i = k
    · rw [e]; exact h1
    · exact List.lt_trans (ih i (by omega) (by omega)) h1
theorem vFares_ne {m : Nat} {a : Nat → ByteArray} {b c d : Nat → Int} (h : vFares m a b c d = true) {i k : Nat} (hi : i < m) (hk : k < m) (e : (a i).toList = (a k).toList) : i = k := by
  rcases Nat.lt_trichotomy i k with h1 | h1 | h1
  · exact absurd (vFares_lt h k i h1 hk) (by rw [e]; exact List.lt_irrefl _)
  · exact h1
  · exact absurd (vFares_lt h i k h1 hi) (by rw [e]; exact List.lt_irrefl _)

theorem beR_spec {p : Nat → Bool} {R : Nat} : ∀ e k, R + 1 - k = e → (beR p R k).2 = 0 → ∃ N : Nat, (beR p R k).1 = N ∧ k ≤ N ∧ N ≤ R ∧ p N = true ∧ ∀ j, k ≤ j → j < N → p j = false := by
  intro e
  induction e with
  | zero => intro k hk h; rw [beR_end (by omega)] at h; simp at h
  | succ e ih =>
    intro k hk h
    cases hp : p k
    · rw [beR_miss (by omega) hp] at h ⊢
      obtain ⟨N, h1, h2, h3, h4, h5⟩ := ih (k + 1) (by omega) h
      refine ⟨N, h1, by omega, h3, h4, fun j j1 j2 => ?_⟩
      by_cases ej : j = k
      · rw [ej]; exact hp
      · exact h5 j (by omega) j2
    · rw [beR_hit (by omega) hp]
      exact ⟨k, rfl, Nat.le_refl _, by omega, hp, fun j j1 j2 => by omega⟩
theorem beR_bad {p : Nat → Bool} {R : Nat} : ∀ e k, R + 1 - k = e → (beR p R k).2 ≠ 0 → (beR p R k).1 = 0 := by
  intro e
  induction e with
  | zero => intro k hk h; rw [beR_end (by omega)]
  | succ e ih =>
    intro k hk h
    cases hp : p k
    · rw [beR_miss (by omega) hp] at h ⊢
      exact ih (k + 1) (by omega) h
    · rw [beR_hit (by omega) hp] at h; exact absurd rfl h
theorem be_bad {n : Nat} {a : Nat → ByteArray} {b c d : Nat → Int} {x y : ByteArray} (h : (beAll n a b c d x y).2 ≠ 0) : (beAll n a b c d x y).1 = 0 := by
  unfold beAll at h ⊢
  split
  · rename_i h0
    rw [if_pos h0] at h
    split
    · rename_i h1
      rw [if_pos h1] at h
      exact beR_bad _ _ rfl h
    · rfl
  · rfl
theorem fidx_is {n : Nat} {a : Nat → ByteArray} {b c d : Nat → Int} {x : ByteArray} (hv : vFares n a b c d = true) {i : Nat} (hi : i < n) (he : (a i).toList = x.toList) : fidx n a x = i := by
  rw [← fidx_idx]
  refine idxTo_at hi (fun j hj => ?_) (eqS_iff.2 he)
  cases hq : eqS (a j) x
  · rfl
  · have h1 := eqS_iff.1 hq
    have := vFares_ne hv (show j < n by omega) hi (h1.trans he.symm)
    omega
theorem be_ok {n : Nat} {a : Nat → ByteArray} {b c d : Nat → Int} {x y : ByteArray} (h : (beAll n a b c d x y).2 = 0) :
    vFares n a b c d = true ∧ 0 < (beAll n a b c d x y).1 ∧ (beAll n a b c d x y).1 ≤ 1000 ∧ ∀ i k, i < n → k < n → (a i).toList = x.toList → (a k).toList = y.toList →
      (beAll n a b c d x y).1 ≤ c k ∧ b k < ((beAll n a b c d x y).1 + c i - 1) / c i * b i ∧ (1 < (beAll n a b c d x y).1 → ((beAll n a b c d x y).1 - 1 + c i - 1) / c i * b i ≤ b k) := by
  have hf : ∀ id : ByteArray, fcode n a b c d true 1 (fun _ => id) = 0 → vFares n a b c d = true ∧ ∃ l : Nat, l < n ∧ fidx n a id = l := fun id h0 => by
    unfold fcode at h0
    split at h0
    · rename_i hv
      refine ⟨hv, ?_⟩
      simp only [if_true] at h0
      split at h0
      · rename_i h1
        have h2 := allTo_out h1 0 (by omega)
        simp only [decide_eq_true_eq] at h2
        rcases fidx_cases n a id with h3 | h3
        · omega
        · exact h3
      · simp at h0
    · simp at h0
  unfold beAll at h ⊢
  split at h
  · rename_i h0
    rw [if_pos h0]
    obtain ⟨hv, ix, hix, eix⟩ := hf x h0
    split at h
    · rename_i h1
      rw [if_pos h1]
      obtain ⟨-, iy, hiy, eiy⟩ := hf y h1
      rw [eix, eiy] at h ⊢
      simp only [Int.toNat_natCast] at h ⊢
      obtain ⟨N, e1, e2, e3, e4, e5⟩ := beR_spec _ _ rfl h
      rw [e1]
      have hcx := vFa_out ((vFares_out hv).2 ix hix)
      have hcy := vFa_out ((vFares_out hv).2 iy hiy)
      refine ⟨hv, by omega, by omega, fun i k hi hk hex hey => ?_⟩
      have q1 := fidx_is hv hi hex
      have q2 := fidx_is hv hk hey
      obtain rfl : i = ix := by omega
      obtain rfl : k = iy := by omega
      refine ⟨by omega, ?_, fun h1N => ?_⟩
      · unfold bep at e4
        rw [decide_eq_true_iff] at e4
        rw [Int.mul_comm]
        exact e4
      · have := e5 (N - 1) (by omega) (by omega)
        unfold bep at this
        rw [decide_eq_false_iff_not, show ((N - 1 : Nat) : Int) = (N : Int) - 1 by omega] at this
        rw [Int.mul_comm]
        omega
    · rename_i h1; exact absurd h h1
  · rename_i h0; exact absurd h h0

end Go.Proofs.YtjmklkhdemolmaaGreatDoor
