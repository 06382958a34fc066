/- The cheapest fares for trips: the plain laws. No program. -/
import Derived.Test.YtjmklkhdemolmaaGreatDoorMrgA
namespace Go.Proofs.YtjmklkhdemolmaaGreatDoor
open Go.RowKit

/-- Fare j is good for the trips a, .., b - 1. -/
def fitF (z r d : Nat → Int) (a b j : Nat) : Bool := decide ((b : Int) - a ≤ r j) && decide (z (b - 1) - z a < d j)
/-- The first of the cheapest ones among the first m fares, or none. -/
def pkF (z c r d : Nat → Int) (a b : Nat) : Nat → Option Nat
  | 0 => none
  | m + 1 => match pkF z c r d a b m with
    | none => if fitF z r d a b m then some m else none
    | some j => if fitF z r d a b m && decide (c m < c j) then some m else some j
theorem pkF_lt {z c r d : Nat → Int} {a b m j : Nat} (h : pkF z c r d a b m = some j) : j < m := by
  induction m generalizing j with
  | zero => simp [pkF] at h
  | succ m ih =>
    unfold pkF at h
    cases hp : pkF z c r d a b m with
    | none => rw [hp] at h; simp only at h; split at h <;> simp at h; omega
    | some i =>
      rw [hp] at h; simp only at h
      have := ih hp
      split at h <;> simp at h <;> omega
theorem pkF_none {z c r d : Nat → Int} {a b m : Nat} (h : pkF z c r d a b m = none) (hf : fitF z r d a b m = true) : pkF z c r d a b (m + 1) = some m := by
  unfold pkF; rw [h]; simp [hf]
theorem pkF_less {z c r d : Nat → Int} {a b m j : Nat} (h : pkF z c r d a b m = some j) (hf : fitF z r d a b m = true) (hc : c m < c j) : pkF z c r d a b (m + 1) = some m := by
  unfold pkF; rw [h]; simp [hf, hc]
theorem pkF_more {z c r d : Nat → Int} {a b m j : Nat} (h : pkF z c r d a b m = some j) (hf : fitF z r d a b m = true) (hc : c j ≤ c m) : pkF z c r d a b (m + 1) = some j := by
  unfold pkF; rw [h]; simp [hf]; omega
theorem pkF_not {z c r d : Nat → Int} {a b m : Nat} (hf : fitF z r d a b m = false) : pkF z c r d a b (m + 1) = pkF z c r d a b m := by
  show (match pkF z c r d a b m with | none => _ | some j => _) = _
  cases pkF z c r d a b m <;> simp [hf]
theorem pkF_some {z c r d : Nat → Int} {a b m i : Nat} (hi : i < m) (hf : fitF z r d a b i = true) : ∃ j, pkF z c r d a b m = some j := by
  induction m with
  | zero => omega
  | succ m ih =>
    cases hp : pkF z c r d a b m with
    | none =>
      by_cases e : i = m
      · subst e; exact ⟨i, pkF_none hp hf⟩
      · obtain ⟨j, hj⟩ := ih (by omega); rw [hp] at hj; cases hj
    | some j =>
      cases hm : fitF z r d a b m
      · exact ⟨j, by rw [pkF_not hm, hp]⟩
      · by_cases hc : c m < c j
        · exact ⟨m, pkF_less hp hm hc⟩
        · exact ⟨j, pkF_more hp hm (by omega)⟩
attribute [irreducible] fitF pkF

/-- p is the last of the places in (a, b] at which v is least, and l is v there. -/
structure Best (v : Nat → Option Int) (a b : Nat) (l : Int) (p : Nat) : Prop where
  lo : a < p
  hi : p ≤ b
  at_ : v p = some l
  least : ∀ k x, a < k → k ≤ b → v k = some x → l ≤ x
  last : ∀ k x, p < k → k ≤ b → v k = some x → l < x
theorem Best.uniq {v : Nat → Option Int} {a b p q : Nat} {l m : Int} (h : Best v a b l p) (k : Best v a b m q) : l = m ∧ p = q := by
  have h1 := h.least q m k.lo k.hi k.at_
  have h2 := k.least p l h.lo h.hi h.at_
  refine ⟨by omega, ?_⟩
  by_cases e1 : p < q
  · have := h.last q m e1 k.hi k.at_; omega
  · by_cases e2 : q < p
    · have := k.last p l e2 h.hi h.at_; omega
    · omega
theorem Best.congr {v v' : Nat → Option Int} {a b p : Nat} {l : Int} (h : Best v a b l p) (e : ∀ k, a < k → k ≤ b → v k = v' k) : Best v' a b l p :=
  ⟨h.lo, h.hi, by rw [← e p h.lo h.hi]; exact h.at_, fun k x h1 h2 h3 => h.least k x h1 h2 (by rw [e k h1 h2]; exact h3), fun k x h1 h2 h3 => h.last k x h1 h2 (by rw [e k (by have := h.lo; omega) h2]; exact h3)⟩
/-- One place more at the upper end. -/
theorem Best.up_none {v : Nat → Option Int} {a b p : Nat} {l : Int} (h : Best v a b l p) (hn : v (b + 1) = none) : Best v a (b + 1) l p :=
  ⟨h.lo, by have := h.hi; omega, h.at_, fun k x h1 h2 h3 => by
    by_cases e : k = b + 1
    · rw [e, hn] at h3; cases h3
    · exact h.least k x h1 (by omega) h3, fun k x h1 h2 h3 => by
    by_cases e : k = b + 1
    · rw [e, hn] at h3; cases h3
    · exact h.last k x h1 (by omega) h3⟩
theorem Best.up_take {v : Nat → Option Int} {a b p : Nat} {l x : Int} (h : Best v a b l p) (hx : v (b + 1) = some x) (hl : x ≤ l) : Best v a (b + 1) x (b + 1) :=
  ⟨by have := h.lo; have := h.hi; omega, Nat.le_refl _, hx, fun k y h1 h2 h3 => by
    by_cases e : k = b + 1
    · rw [e, hx] at h3; cases h3; exact Int.le_refl _
    · exact Int.le_trans hl (h.least k y h1 (by omega) h3), fun k y h1 h2 h3 => by omega⟩
theorem Best.up_keep {v : Nat → Option Int} {a b p : Nat} {l x : Int} (h : Best v a b l p) (hx : v (b + 1) = some x) (hl : l < x) : Best v a (b + 1) l p :=
  ⟨h.lo, by have := h.hi; omega, h.at_, fun k y h1 h2 h3 => by
    by_cases e : k = b + 1
    · rw [e, hx] at h3; cases h3; omega
    · exact h.least k y h1 (by omega) h3, fun k y h1 h2 h3 => by
    by_cases e : k = b + 1
    · rw [e, hx] at h3; cases h3; exact hl
    · exact h.last k y h1 (by omega) h3⟩
theorem Best.one {v : Nat → Option Int} {a : Nat} {x : Int} (hx : v (a + 1) = some x) : Best v a (a + 1) x (a + 1) :=
  ⟨by omega, Nat.le_refl _, hx, fun k y h1 h2 h3 => by rw [show k = a + 1 by omega, hx] at h3; cases h3; exact Int.le_refl _, fun k y h1 h2 h3 => by omega⟩
/-- One place more at the lower end: nothing yet, or the best. -/
def Found (v : Nat → Option Int) (a b : Nat) (l : Int) (p : Nat) : Prop := (l = -1 ∧ ∀ k, a < k → k ≤ b → v k = none) ∨ (0 ≤ l ∧ Best v a b l p)
theorem Found.start (v : Nat → Option Int) (b p : Nat) : Found v b b (-1) p := .inl ⟨rfl, fun k h1 h2 => by omega⟩
theorem Found.down_none {v : Nat → Option Int} {a b p : Nat} {l : Int} (h : Found v (a + 1) b l p) (hn : v (a + 1) = none) : Found v a b l p := by
  rcases h with ⟨h1, h2⟩ | ⟨h0, h⟩
  · exact .inl ⟨h1, fun k k1 k2 => by
      by_cases e : k = a + 1
      · rw [e]; exact hn
      · exact h2 k (by omega) k2⟩
  · exact .inr ⟨h0, by have := h.lo; omega, h.hi, h.at_, fun k x h1 h2 h3 => by
      by_cases e : k = a + 1
      · rw [e, hn] at h3; cases h3
      · exact h.least k x (by omega) h2 h3, h.last⟩
theorem Found.down_take {v : Nat → Option Int} {a b p : Nat} {l x : Int} (h : Found v (a + 1) b l p) (hab : a < b) (hx : v (a + 1) = some x) (h0 : 0 ≤ x) (hl : l < 0 ∨ x < l) : Found v a b x (a + 1) := by
  refine .inr ⟨h0, by omega, by omega, hx, fun k y h1 h2 h3 => ?_, fun k y h1 h2 h3 => ?_⟩
  · by_cases e : k = a + 1
    · rw [e, hx] at h3; cases h3; exact Int.le_refl _
    · rcases h with ⟨-, h⟩ | ⟨_, h⟩
      · rw [h k (by omega) h2] at h3; cases h3
      · have := h.least k y (by omega) h2 h3; omega
  · rcases h with ⟨-, h⟩ | ⟨_, h⟩
    · rw [h k h1 h2] at h3; cases h3
    · have := h.least k y h1 h2 h3; omega
theorem Found.down_keep {v : Nat → Option Int} {a b p : Nat} {l x : Int} (h : Found v (a + 1) b l p) (hx : v (a + 1) = some x) (h0 : 0 ≤ l) (hl : l ≤ x) : Found v a b l p := by
  rcases h with ⟨h1, -⟩ | ⟨_, h⟩
  · omega
  · exact .inr ⟨h0, by have := h.lo; omega, h.hi, h.at_, fun k y h1 h2 h3 => by
      by_cases e : k = a + 1
      · rw [e, hx] at h3; cases h3; exact hl
      · exact h.least k y (by omega) h2 h3, h.last⟩
theorem Found.best {v : Nat → Option Int} {a b p : Nat} {l x : Int} (h : Found v a b l p) (hab : a < b) (hx : v (a + 1) = some x) : Best v a b l p := by
  rcases h with ⟨-, h⟩ | ⟨_, h⟩
  · rw [h (a + 1) (by omega) (by omega)] at hx; cases hx
  · exact h

/-- What a first part that ends at k costs, with what the rest costs. -/
def partV (z c r d : Nat → Int) (m : Nat) (L : Nat → Int) (i k : Nat) : Option Int := (pkF z c r d i k m).map fun j => c j + L k
/-- L and P: what the trips from i on cost, and where their first part ends. -/
structure Good (z c r d : Nat → Int) (m n : Nat) (L : Nat → Int) (P : Nat → Nat) : Prop where
  last : L n = 0
  best : ∀ i, i < n → Best (partV z c r d m L i) i n (L i) (P i)
theorem best_ex {v : Nat → Option Int} {a b : Nat} {x : Int} (hab : a < b) (hx : v (a + 1) = some x) : ∃ l p, Best v a b l p := by
  induction b with
  | zero => omega
  | succ b ih =>
    by_cases e : a = b
    · subst e; exact ⟨x, a + 1, Best.one hx⟩
    · obtain ⟨l, p, h⟩ := ih (by omega)
      cases hv : v (b + 1) with
      | none => exact ⟨l, p, h.up_none hv⟩
      | some y =>
        by_cases hl : y ≤ l
        · exact ⟨y, b + 1, h.up_take hv hl⟩
        · exact ⟨l, p, h.up_keep hv (by omega)⟩
theorem good_ex {z c r d : Nat → Int} {m n : Nat} (h1 : ∀ i, i < n → ∃ j, pkF z c r d i (i + 1) m = some j) : ∃ L P, Good z c r d m n L P := by
  have key : ∀ e, e ≤ n → ∃ (L : Nat → Int) (P : Nat → Nat), L n = 0 ∧ ∀ i, n - e ≤ i → i < n → Best (partV z c r d m L i) i n (L i) (P i) := by
    intro e
    induction e with
    | zero => intro _; exact ⟨fun _ => 0, fun _ => 0, rfl, fun i h2 h3 => by omega⟩
    | succ e ih =>
      intro he
      obtain ⟨L, P, h0, hb⟩ := ih (by omega)
      obtain ⟨j, hj⟩ := h1 (n - (e + 1)) (by omega)
      obtain ⟨l, p, hl⟩ := best_ex (v := partV z c r d m L (n - (e + 1))) (a := n - (e + 1)) (b := n) (by omega) (show _ = some (c j + L (n - (e + 1) + 1)) by unfold partV; rw [hj]; rfl)
      refine ⟨fun i => if i = n - (e + 1) then l else L i, fun i => if i = n - (e + 1) then p else P i, by simp only; rw [if_neg (by omega)]; exact h0, fun i h2 h3 => ?_⟩
      by_cases e' : i = n - (e + 1)
      · subst e'
        simp only [if_pos]
        refine hl.congr (fun k k1 k2 => ?_)
        have hk : ¬ k = n - (e + 1) := by omega
        simp only [partV, hk, if_false]
      · simp only [if_neg e']
        refine (hb i (by omega) h3).congr (fun k k1 k2 => ?_)
        have hk : ¬ k = n - (e + 1) := by omega
        simp only [partV, hk, if_false]
  obtain ⟨L, P, h0, hb⟩ := key n (Nat.le_refl _)
  exact ⟨L, P, h0, fun i hi => hb i (by omega) hi⟩

end Go.Proofs.YtjmklkhdemolmaaGreatDoor
