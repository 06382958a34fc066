/- The answers on the cheapest fares, as the law on trips asks for them. Plain, no program. -/
import Derived.Test.YtjmklkhdemolmaaGreatDoorTrB
import Derived.Test.YtjmklkhdemolmaaGreatDoorCheapM
namespace Go.Proofs.YtjmklkhdemolmaaGreatDoor
open Go.RowKit Go.Deep
set_option linter.unusedVariables false
set_option maxRecDepth 100000

theorem ch_bad {m : Nat} {a : Nat → ByteArray} {b c d : Nat → Int} {n : Nat} {z : Nat → Int} {r0 : Int} {M : List ByteArray} {r2 : Int} (h : ChAns m a b c d n z r0 M r2) (h2 : r2 ≠ 0) : r0 = 0 ∧ M = [] := by
  rcases h with ⟨-, h0, h1, -⟩ | ⟨-, -, h0, h1, -⟩ | ⟨-, -, -, -, h0, h1, -⟩ | ⟨-, -, -, L, P, -, -, -, h0⟩
  · exact ⟨h0, h1⟩
  · exact ⟨h0, h1⟩
  · exact ⟨h0, h1⟩
  · exact absurd h0 h2
theorem ch_ok {m : Nat} {a : Nat → ByteArray} {b c d : Nat → Int} {n : Nat} {z : Nat → Int} {r0 : Int} {M : List ByteArray} {r2 : Int} (h : ChAns m a b c d n z r0 M r2) (h2 : r2 = 0) :
    vFares m a b c d = true ∧ trOk n z = true ∧ (0 < m ∨ n = 0) ∧ ∃ L P, Good z b c d m n L P ∧ r0 = L 0 ∧ M = idF a (fun i k => pkF z b c d i k m) P (endF P n) := by
  rcases h with ⟨-, -, -, h0⟩ | ⟨-, -, -, -, h0⟩ | ⟨-, -, -, -, -, -, h0⟩ | ⟨hv, ht, hm, L, P, hG, h0, h1, -⟩
  · omega
  · omega
  · omega
  · exact ⟨hv, ht, hm, L, P, hG, h0, h1⟩
theorem trOk_step {n : Nat} {z : Nat → Int} (h : trOk (n + 1) z = true) : trOk n (fun i => z (i + 1)) = true ∧ ∀ i, i < n → z i ≤ z (i + 1) := by
  obtain ⟨h1, h2, h3⟩ := trOk_out h
  have hle : ∀ i, i < n → z i ≤ z (i + 1) := fun i hi => by
    have := h2 (i + 1) (by omega)
    unfold tAt at this
    simp only [Bool.and_eq_true, Bool.or_eq_true, decide_eq_true_eq, Nat.add_sub_cancel] at this
    rcases this.2 with h4 | h4
    · omega
    · exact h4
  refine ⟨?_, hle⟩
  rw [trOk_yes (fun i hi => ?_), decide_eq_true (by omega)]
  have h4 := h3 (i + 1) (by omega)
  unfold tAt
  rw [inB_yes h4.1 h4.2]
  by_cases h0 : i = 0
  · simp [h0]
  · have := hle (i - 1) (by omega)
    rw [show i - 1 + 1 = i by omega] at this
    have h5 : decide (z (i - 1 + 1) ≤ z (i + 1)) = true := by
      rw [decide_eq_true_iff, show i - 1 + 1 = i by omega]
      exact hle i hi
    simp only [h5, Bool.or_true, Bool.true_and]
/-- With one trip less it costs no more, and is told too. -/
theorem ch_less {m : Nat} {a : Nat → ByteArray} {b c d : Nat → Int} {n : Nat} {z : Nat → Int} {L : Nat → Int} {P : Nat → Nat} {r0 : Int} {M : List ByteArray} {r2 : Int} (hv : vFares m a b c d = true) (ht : trOk (n + 1) z = true) (hm : 0 < m) (hG : Good z b c d m (n + 1) L P) (h : ChAns m a b c d n (fun i => z (i + 1)) r0 M r2) : r2 = 0 ∧ r0 ≤ L 0 := by
  obtain ⟨t1, t2⟩ := trOk_step ht
  rcases h with ⟨h0, -⟩ | ⟨-, h0, -⟩ | ⟨-, -, h0, -⟩ | ⟨-, -, -, L', P', hG', h0, -, h2⟩
  · rw [hv] at h0; cases h0
  · rw [t1] at h0; cases h0
  · omega
  · exact ⟨h2, by rw [h0]; exact hG.less hG' (vFares_FB hv).2 t2⟩
theorem ch_bds {m : Nat} {a : Nat → ByteArray} {b c d : Nat → Int} {n : Nat} {z : Nat → Int} {L : Nat → Int} {P : Nat → Nat} (hv : vFares m a b c d = true) (ht : trOk n z = true) (hm : 0 < m ∨ n = 0) (hG : Good z b c d m n L P) :
    n ≤ 40 ∧ (0 ≤ L 0 ∧ L 0 ≤ 4000000) ∧ m ≤ 8 := by
  have h1 := (trOk_out ht).1
  have h2 := hG.bd' (vFares_FB hv).2 hm h1 0 (by omega)
  exact ⟨h1, h2, (vFares_FB hv).1⟩
/-- The sums stay small. -/
theorem sums_bd {z b c d : Nat → Int} {m : Nat} {P : Nat → Nat} (hB : FB m b c d) : ∀ t, (∀ s, s < t → jt z b c d m P s < m) → (0 ≤ cSum z b c d m P t ∧ cSum z b c d m P t ≤ 100000 * t) ∧ (0 ≤ rSum z b c d m P t ∧ rSum z b c d m P t ≤ 1000 * t) := by
  intro t
  induction t with
  | zero => intro _; simp [cSum, rSum]
  | succ t ih =>
    intro h
    have h1 := ih (fun s hs => h s (by omega))
    have h2 := hB _ (h t (by omega))
    have e1 : cSum z b c d m P (t + 1) = cSum z b c d m P t + b (jt z b c d m P t) := rfl
    have e2 : rSum z b c d m P (t + 1) = rSum z b c d m P t + c (jt z b c d m P t) := rfl
    rw [e1, e2]
    omega

end Go.Proofs.YtjmklkhdemolmaaGreatDoor
