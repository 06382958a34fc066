/- Who has come and who has gone by each minute: the plain law of waits. No program. -/
import Derived.Test.YtobpeiimiglknaaSums
namespace Go.Proofs.Ytobpeiimiglknaa
open Go.RowKit Go.Deep
set_option linter.unusedVariables false

/-- Persons that have come by the end of minute m. -/
def cmN (n : Nat) (z : Nat → Int) : Nat → Nat
  | 0 => 0
  | m + 1 => cmN n z m + (if m < n then (z m).toNat else 0)
/-- Persons that have gone by the end of minute m. -/
def svN (n : Nat) (z : Nat → Int) (ev se : Nat) : Nat → Nat
  | 0 => 0
  | m + 1 => if (m + 1) % ev = 0 then svN n z ev se m + min se (cmN n z (m + 1) - svN n z ev se m) else svN n z ev se m
/-- The first minute at whose end F is over i (searched below a bound). -/
def fmN (F : Nat → Nat) : Nat → Nat → Nat
  | 0, _ => 0
  | m + 1, i => if i < F m then fmN F m i else m + 1
theorem cmN_in {n m : Nat} {z : Nat → Int} (h : m < n) : cmN n z (m + 1) = cmN n z m + (z m).toNat := by simp [cmN, h]
theorem cmN_out {n m : Nat} {z : Nat → Int} (h : n ≤ m) : cmN n z (m + 1) = cmN n z m := by simp [cmN, Nat.not_lt.2 h]
theorem cmN_up (n : Nat) (z : Nat → Int) (m : Nat) : cmN n z m ≤ cmN n z (m + 1) := by simp only [cmN]; omega
theorem mono_of {F : Nat → Nat} (h : ∀ m, F m ≤ F (m + 1)) {a b : Nat} (hab : a ≤ b) : F a ≤ F b := by
  induction b with
  | zero => have : a = 0 := by omega
            subst this; exact Nat.le_refl _
  | succ b ih =>
    by_cases e : a = b + 1
    · subst e; exact Nat.le_refl _
    · exact Nat.le_trans (ih (by omega)) (h b)
theorem cmN_end {n : Nat} {z : Nat → Int} : ∀ {m : Nat}, n ≤ m → cmN n z m = cmN n z n
  | 0, h => by have : n = 0 := by omega
               subst this; rfl
  | m + 1, h => by
    by_cases e : n = m + 1
    · subst e; rfl
    · rw [cmN_out (by omega)]; exact cmN_end (by omega)
theorem cmN_le (n : Nat) (z : Nat → Int) (m : Nat) : cmN n z m ≤ cmN n z n := by
  by_cases h : m ≤ n
  · exact mono_of (cmN_up n z) h
  · rw [cmN_end (by omega)]; exact Nat.le_refl _
theorem cmN_sum {n : Nat} {z : Nat → Int} (h : ∀ i, i < n → 0 ≤ z i) : ∀ m, m ≤ n → (cmN n z m : Int) = sumTo z m
  | 0, _ => by rw [sumTo_zero]; rfl
  | m + 1, hm => by
    rw [cmN_in (by omega), sumTo_succ, ← cmN_sum h m (by omega)]
    have := h m (by omega)
    omega
section
variable {n : Nat} {z : Nat → Int} {ev se : Nat}
theorem svN_ride {m : Nat} (h : (m + 1) % ev = 0) : svN n z ev se (m + 1) = svN n z ev se m + min se (cmN n z (m + 1) - svN n z ev se m) := by simp [svN, h]
theorem svN_none {m : Nat} (h : (m + 1) % ev ≠ 0) : svN n z ev se (m + 1) = svN n z ev se m := by simp [svN, h]
theorem svN_up (m : Nat) : svN n z ev se m ≤ svN n z ev se (m + 1) := by
  by_cases h : (m + 1) % ev = 0
  · rw [svN_ride h]; omega
  · rw [svN_none h]; exact Nat.le_refl _
theorem svN_le : ∀ m, svN n z ev se m ≤ cmN n z m
  | 0 => Nat.le_refl _
  | m + 1 => by
    have h1 := svN_le m
    have h2 := cmN_up n z m
    by_cases h : (m + 1) % ev = 0
    · rw [svN_ride h]; omega
    · rw [svN_none h]; omega
theorem svN_grow (he : 1 ≤ ev) (hs : 1 ≤ se) : ∀ j, min (cmN n z n) j ≤ svN n z ev se (n + ev * j)
  | 0 => by simp
  | j + 1 => by
    have ih := svN_grow he hs j
    -- a multiple of ev among the next ev minutes
    obtain ⟨m, hm1, hm2, hm3⟩ : ∃ m, n + ev * j ≤ m ∧ m + 1 ≤ n + ev * (j + 1) ∧ (m + 1) % ev = 0 := by
      have hd := Nat.div_add_mod (n + ev * j) ev
      have hlt := Nat.mod_lt (n + ev * j) (show 0 < ev by omega)
      refine ⟨ev * ((n + ev * j) / ev) + ev - 1, by omega, ?_, ?_⟩
      · rw [Nat.mul_succ]; omega
      · rw [show ev * ((n + ev * j) / ev) + ev - 1 + 1 = ev * ((n + ev * j) / ev + 1) by rw [Nat.mul_succ]; omega]
        exact Nat.mul_mod_right _ _
    have h1 := mono_of (svN_up (n := n) (z := z) (ev := ev) (se := se)) hm1
    have h2 := mono_of (svN_up (n := n) (z := z) (ev := ev) (se := se)) hm2
    have h3 : cmN n z (m + 1) = cmN n z n := cmN_end (by omega)
    have h4 := svN_ride (n := n) (z := z) (se := se) hm3
    rw [h3] at h4
    omega
/-- A bound of all minutes. -/
def bdN (n : Nat) (z : Nat → Int) (ev : Nat) : Nat := n + ev * cmN n z n + 1
theorem svN_bd (he : 1 ≤ ev) (hs : 1 ≤ se) {k : Nat} (h : svN n z ev se k < cmN n z n) : k + 1 < bdN n z ev := by
  unfold bdN
  by_cases hk : n + ev * cmN n z n ≤ k
  · have h1 := mono_of (svN_up (n := n) (z := z) (ev := ev) (se := se)) hk
    have h2 := svN_grow (n := n) (z := z) he hs (cmN n z n)
    omega
  · omega
end
theorem fmN_at {F : Nat → Nat} (hF : ∀ m, F m ≤ F (m + 1)) {k i : Nat} (h1 : F k ≤ i) (h2 : i < F (k + 1)) : ∀ {M : Nat}, k + 1 ≤ M → fmN F M i = k + 1
  | 0, h => by omega
  | M + 1, h => by
    by_cases e : k = M
    · subst e; simp only [fmN]; rw [if_neg (by omega)]
    · have h3 : F (k + 1) ≤ F M := mono_of hF (by omega)
      simp only [fmN]; rw [if_pos (by omega)]; exact fmN_at hF h1 h2 (by omega)
theorem fmN_le (F : Nat → Nat) : ∀ M i, fmN F M i ≤ M
  | 0, _ => Nat.le_refl _
  | M + 1, i => by
    simp only [fmN]
    have := fmN_le F M i
    split <;> omega
/-- The wait of person i. -/
def wtN (n : Nat) (z : Nat → Int) (ev se : Nat) (i : Nat) : Int := (fmN (svN n z ev se) (bdN n z ev) i : Int) - (fmN (cmN n z) (bdN n z ev) i : Int)
def cwN (n : Nat) (z : Nat → Int) (ev : Nat) (i : Nat) : Int := (fmN (cmN n z) (bdN n z ev) i : Int)
/-- The last minute. -/
def ndN (F : Nat → Nat) (T : Nat) : Nat → Nat
  | 0 => 0
  | m + 1 => if F m < T then m + 1 else ndN F T m
theorem ndN_of {F : Nat → Nat} (hF : ∀ m, F m ≤ F (m + 1)) {T k : Nat} (h1 : ∀ j, j < k → F j < T) (h2 : T ≤ F k) : ∀ {M : Nat}, k ≤ M → ndN F T M = k
  | 0, h => by simp only [ndN]; omega
  | M + 1, h => by
    by_cases e : k = M + 1
    · subst e; simp only [ndN]; rw [if_pos (h1 M (by omega))]
    · have h3 : F k ≤ F M := mono_of hF (by omega)
      simp only [ndN]; rw [if_neg (by omega)]; exact ndN_of hF h1 h2 (by omega)
def rdN (n : Nat) (z : Nat → Int) (ev se : Nat) : Int := ((ndN (svN n z ev se) (cmN n z n) (bdN n z ev) / ev : Nat) : Int)

/-- All that a walk asks of the two counts, hidden: C, S, the two times, the bound. -/
structure Serve (n : Nat) (z : Nat → Int) (ev se T M : Nat) (C S : Nat → Nat) (wt cw : Nat → Int) (R : Int) : Prop where
  c0 : C 0 = 0
  s0 : S 0 = 0
  cin : ∀ m, m < n → (C (m + 1) : Int) = C m + z m
  cout : ∀ m, n ≤ m → C (m + 1) = C m
  cend : ∀ m, n ≤ m → C m = T
  cle : ∀ m, C m ≤ T
  cup : ∀ m, C m ≤ C (m + 1)
  sride : ∀ m, (m + 1) % ev = 0 → S (m + 1) = S m + min se (C (m + 1) - S m)
  snone : ∀ m, (m + 1) % ev ≠ 0 → S (m + 1) = S m
  sle : ∀ m, S m ≤ C m
  sup : ∀ m, S m ≤ S (m + 1)
  bd : ∀ k, S k < T → k + 1 < M
  nM : n < M
  cwa : ∀ k i, k + 1 ≤ M → C k ≤ i → i < C (k + 1) → cw i = (k : Int) + 1
  wta : ∀ k i, k + 1 ≤ M → S k ≤ i → i < S (k + 1) → wt i = (k : Int) + 1 - cw i
  cwb : ∀ i, 0 ≤ cw i ∧ cw i ≤ M
  fin : ∀ k, (∀ j, j < k → S j < T) → T ≤ S k → R = ((k / ev : Nat) : Int)
theorem serve_mk {n : Nat} {z : Nat → Int} {ev se : Nat} (hz : ∀ i, i < n → 0 ≤ z i) (he : 1 ≤ ev) (hs : 1 ≤ se) :
    Serve n z ev se (cmN n z n) (bdN n z ev) (cmN n z) (svN n z ev se) (wtN n z ev se) (cwN n z ev) (rdN n z ev se) where
  c0 := rfl
  s0 := rfl
  cin m hm := by have := hz m hm; rw [cmN_in hm]; omega
  cout m hm := cmN_out hm
  cend m hm := cmN_end hm
  cle m := cmN_le n z m
  cup m := cmN_up n z m
  sride m h := svN_ride h
  snone m h := svN_none h
  sle m := svN_le m
  sup m := svN_up m
  bd k h := svN_bd he hs h
  nM := by unfold bdN; omega
  cwa k i hk h1 h2 := by unfold cwN; rw [fmN_at (cmN_up n z) h1 h2 hk]; rfl
  wta k i hk h1 h2 := by unfold wtN cwN; rw [fmN_at svN_up h1 h2 hk]; rfl
  cwb i := by unfold cwN; have := fmN_le (cmN n z) (bdN n z ev) i; omega
  fin k h1 h2 := by
    unfold rdN
    have hk : k ≤ bdN n z ev := by
      by_cases h0 : k = 0
      · omega
      · have := svN_bd he hs (h1 (k - 1) (by omega)); omega
    rw [ndN_of svN_up h1 h2 hk]

end Go.Proofs.Ytobpeiimiglknaa
