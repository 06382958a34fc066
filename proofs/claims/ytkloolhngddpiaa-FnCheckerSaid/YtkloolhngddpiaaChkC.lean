/- Slices of states and of moves as lists of numbers. -/
import Derived.Test.YtkloolhngddpiaaChkP
import Derived.Test.YtkloolhngddpiaaAggs
import Derived.Test.YtkloolhngddpiaaOpen
namespace Go.Proofs.Ytkloolhngddpiaa
open Go.RowKit Go.Deep
set_option linter.unusedVariables false
set_option maxRecDepth 100000

def stc (L : List Nat) : Nat → Value := fun j =>
  if j % 5 = 0 then .int .i64 (cm (nth L (j / 5)) : Nat) else .bool (if j % 5 = 1 then co (nth L (j / 5)) else if j % 5 = 2 then ca (nth L (j / 5)) else if j % 5 = 3 then cb (nth L (j / 5)) else ce (nth L (j / 5)))
theorem stc0 (L : List Nat) (e : Nat) : stc L (e * 5) = .int .i64 (cm (nth L e) : Nat) := by unfold stc; rw [if_pos (by omega), show (e * 5) / 5 = e by omega]
theorem stc1 (L : List Nat) (e : Nat) : stc L (e * 5 + 1) = .bool (co (nth L e)) := by unfold stc; rw [if_neg (by omega), if_pos (by omega), show (e * 5 + 1) / 5 = e by omega]
theorem stc2 (L : List Nat) (e : Nat) : stc L (e * 5 + 2) = .bool (ca (nth L e)) := by unfold stc; rw [if_neg (by omega), if_neg (by omega), if_pos (by omega), show (e * 5 + 2) / 5 = e by omega]
theorem stc3 (L : List Nat) (e : Nat) : stc L (e * 5 + 3) = .bool (cb (nth L e)) := by unfold stc; rw [if_neg (by omega), if_neg (by omega), if_neg (by omega), if_pos (by omega), show (e * 5 + 3) / 5 = e by omega]
theorem stc4 (L : List Nat) (e : Nat) : stc L (e * 5 + 4) = .bool (ce (nth L e)) := by unfold stc; rw [if_neg (by omega), if_neg (by omega), if_neg (by omega), if_neg (by omega), show (e * 5 + 4) / 5 = e by omega]
theorem stcells {w : World} {g off n : Nat} {L : List Nat} (h : Row w g off (n * 5) (stc L)) {e c : Nat} (he : e < n) (hc : nth L e = c) :
    w.cell? ⟨g, off + e * 5, none⟩ = some (.int .i64 (cm c : Nat)) ∧ w.cell? ⟨g, off + e * 5 + 1, none⟩ = some (.bool (co c)) ∧ w.cell? ⟨g, off + e * 5 + 2, none⟩ = some (.bool (ca c)) ∧ w.cell? ⟨g, off + e * 5 + 3, none⟩ = some (.bool (cb c)) ∧ w.cell? ⟨g, off + e * 5 + 4, none⟩ = some (.bool (ce c)) := by
  subst hc
  refine ⟨?_, ?_, ?_, ?_, ?_⟩
  · rw [h.cell (i := e * 5) (by omega), stc0]
  · have := h.cell (i := e * 5 + 1) (by omega)
    rw [stc1] at this
    exact this
  · have := h.cell (i := e * 5 + 2) (by omega)
    rw [stc2] at this
    exact this
  · have := h.cell (i := e * 5 + 3) (by omega)
    rw [stc3] at this
    exact this
  · have := h.cell (i := e * 5 + 4) (by omega)
    rw [stc4] at this
    exact this
theorem nth_app_lt {L : List Nat} {y i : Nat} (h : i < L.length) : nth (L ++ [y]) i = nth L i := by
  induction L generalizing i with
  | nil => exact absurd h (Nat.not_lt_zero _)
  | cons a L ih => cases i with
    | zero => rfl
    | succ i => exact ih (by simpa using h)
theorem nth_app_at (L : List Nat) (y : Nat) : nth (L ++ [y]) L.length = y := by
  induction L with
  | nil => rfl
  | cons a L ih => exact ih
theorem nthM_app_lt {L : List (Nat × Nat × Nat)} {y : Nat × Nat × Nat} {i : Nat} (h : i < L.length) : nthM (L ++ [y]) i = nthM L i := by
  induction L generalizing i with
  | nil => exact absurd h (Nat.not_lt_zero _)
  | cons a L ih => cases i with
    | zero => rfl
    | succ i => exact ih (by simpa using h)
theorem nthM_app_at (L : List (Nat × Nat × Nat)) (y : Nat × Nat × Nat) : nthM (L ++ [y]) L.length = y := by
  induction L with
  | nil => rfl
  | cons a L ih => exact ih
theorem stc_app {L : List Nat} {y i : Nat} (h : i < L.length * 5) : stc L i = stc (L ++ [y]) i := by
  unfold stc
  rw [nth_app_lt (show i / 5 < L.length by omega)]
theorem out_st {w : World} {B : Nat} {e : TypeId} {v : Value} {L : List Nat} {y n : Nat} (hn : L.length = n) (h : w.ownsRow B e 5 v (n + 1) (cellsN (stc L) (n * 5) ++ [.int .i64 (cm y : Nat), .bool (co y), .bool (ca y), .bool (cb y), .bool (ce y)])) : Out w B e 5 v (n + 1) (stc (L ++ [y])) := by
  subst hn
  have e1 : cellsN (stc (L ++ [y])) ((L.length + 1) * 5) = cellsN (stc L) (L.length * 5) ++ [.int .i64 (cm y : Nat), .bool (co y), .bool (ca y), .bool (cb y), .bool (ce y)] := by
    rw [show (L.length + 1) * 5 = L.length * 5 + 1 + 1 + 1 + 1 + 1 by omega, cellsN_succ, cellsN_succ, cellsN_succ, cellsN_succ, cellsN_succ,
      show L.length * 5 + 1 + 1 = L.length * 5 + 2 from rfl, show L.length * 5 + 2 + 1 = L.length * 5 + 3 from rfl, show L.length * 5 + 3 + 1 = L.length * 5 + 4 from rfl,
      stc0, stc1, stc2, stc3, stc4, nth_app_at, cellsN_congr (fun i hi => (stc_app (L := L) (y := y) hi).symm)]
    simp only [List.append_assoc, List.cons_append, List.nil_append]
  unfold Out
  rw [e1]
  exact h

def mvc (ms : List (Nat × Nat × Nat)) : Nat → Value := fun j => .int .i64 ((if j % 3 = 0 then (nthM ms (j / 3)).1 else if j % 3 = 1 then (nthM ms (j / 3)).2.1 else (nthM ms (j / 3)).2.2 : Nat) : Int)
theorem mvc0 (L : List (Nat × Nat × Nat)) (e : Nat) : mvc L (e * 3) = .int .i64 ((nthM L e).1 : Nat) := by unfold mvc; rw [if_pos (by omega), show (e * 3) / 3 = e by omega]
theorem mvc1 (L : List (Nat × Nat × Nat)) (e : Nat) : mvc L (e * 3 + 1) = .int .i64 ((nthM L e).2.1 : Nat) := by unfold mvc; rw [if_neg (by omega), if_pos (by omega), show (e * 3 + 1) / 3 = e by omega]
theorem mvc2 (L : List (Nat × Nat × Nat)) (e : Nat) : mvc L (e * 3 + 2) = .int .i64 ((nthM L e).2.2 : Nat) := by unfold mvc; rw [if_neg (by omega), if_neg (by omega), show (e * 3 + 2) / 3 = e by omega]
theorem mvcells {w : World} {g off n : Nat} {L : List (Nat × Nat × Nat)} (h : Row w g off (n * 3) (mvc L)) {e f k t : Nat} (he : e < n) (hc : nthM L e = (f, k, t)) :
    w.cell? ⟨g, off + e * 3, none⟩ = some (.int .i64 (f : Nat)) ∧ w.cell? ⟨g, off + e * 3 + 1, none⟩ = some (.int .i64 (k : Nat)) ∧ w.cell? ⟨g, off + e * 3 + 2, none⟩ = some (.int .i64 (t : Nat)) := by
  refine ⟨?_, ?_, ?_⟩
  · rw [h.cell (i := e * 3) (by omega), mvc0, hc]
  · have := h.cell (i := e * 3 + 1) (by omega)
    rw [mvc1, hc] at this
    exact this
  · have := h.cell (i := e * 3 + 2) (by omega)
    rw [mvc2, hc] at this
    exact this
theorem mvc_app {L : List (Nat × Nat × Nat)} {y : Nat × Nat × Nat} {i : Nat} (h : i < L.length * 3) : mvc L i = mvc (L ++ [y]) i := by
  unfold mvc
  rw [nthM_app_lt (show i / 3 < L.length by omega)]
theorem out_mv {w : World} {B : Nat} {e : TypeId} {v : Value} {L : List (Nat × Nat × Nat)} {f k t n : Nat} (hn : L.length = n) (h : w.ownsRow B e 3 v (n + 1) (cellsN (mvc L) (n * 3) ++ [.int .i64 (f : Nat), .int .i64 (k : Nat), .int .i64 (t : Nat)])) : Out w B e 3 v (n + 1) (mvc (L ++ [(f, k, t)])) := by
  subst hn
  have e1 : cellsN (mvc (L ++ [(f, k, t)])) ((L.length + 1) * 3) = cellsN (mvc L) (L.length * 3) ++ [.int .i64 (f : Nat), .int .i64 (k : Nat), .int .i64 (t : Nat)] := by
    rw [show (L.length + 1) * 3 = L.length * 3 + 1 + 1 + 1 by omega, cellsN_succ, cellsN_succ, cellsN_succ, show L.length * 3 + 1 + 1 = L.length * 3 + 2 from rfl, mvc0, mvc1, mvc2, nthM_app_at, cellsN_congr (fun i hi => (mvc_app (L := L) (y := (f, k, t)) hi).symm)]
    simp only [List.append_assoc, List.cons_append, List.nil_append]
  unfold Out
  rw [e1]
  exact h

/-! Finding. -/
def fi (L : List Nat) (y : Nat) : Int := if hasN L y = true then (idxN L y : Nat) else -1
theorem beq_ne {a y : Nat} (h : a ≠ y) : Nat.beq a y = false := by
  cases e : Nat.beq a y
  · rfl
  · exact absurd (Nat.eq_of_beq_eq_true e) h
theorem has_at {L : List Nat} {k : Nat} (hk : k < L.length) : hasN L (nth L k) = true := by
  induction L generalizing k with
  | nil => exact absurd hk (Nat.not_lt_zero _)
  | cons a L ih =>
    cases k with
    | zero => simp [hasN, nth]
    | succ k => simp [hasN, nth, ih (k := k) (by simpa using hk)]
theorem has_out {L : List Nat} {y : Nat} (h : ∀ i, i < L.length → nth L i ≠ y) : hasN L y = false := by
  induction L with
  | nil => rfl
  | cons a L ih =>
    have h0 : a ≠ y := h 0 (by simp)
    have h1 := ih (fun i hi => h (i + 1) (by simpa using hi))
    simp [hasN, h1, beq_ne h0]
theorem idx_at {L : List Nat} {y k : Nat} (hk : k < L.length) (hy : nth L k = y) (hb : ∀ i, i < k → nth L i ≠ y) : idxN L y = k := by
  induction L generalizing k with
  | nil => exact absurd hk (Nat.not_lt_zero _)
  | cons a L ih =>
    cases k with
    | zero =>
      have e : Nat.beq a y = true := by simpa [nth] using hy
      simp [idxN, e]
    | succ k =>
      have h0 : a ≠ y := hb 0 (by omega)
      have e : Nat.beq a y = false := beq_ne h0
      simp [idxN, e, ih (k := k) (by simpa using hk) hy (fun i hi => hb (i + 1) (by omega))]
theorem fi_at {L : List Nat} {y k : Nat} (hk : k < L.length) (hy : nth L k = y) (hb : ∀ i, i < k → nth L i ≠ y) : fi L y = k := by
  unfold fi
  rw [← hy, has_at hk, if_pos rfl, hy, idx_at hk hy hb]
theorem fi_no {L : List Nat} {y : Nat} (h : ∀ i, i < L.length → nth L i ≠ y) : fi L y = -1 := by
  unfold fi
  rw [has_out h, if_neg (by simp)]
theorem fi_has {L : List Nat} {y : Nat} (h : hasN L y = true) : fi L y = (idxN L y : Nat) := by unfold fi; rw [if_pos h]
theorem fi_hasnt {L : List Nat} {y : Nat} (h : hasN L y = false) : fi L y = -1 := by unfold fi; rw [if_neg (by simp [h])]
theorem idx_lt {L : List Nat} {y : Nat} (h : hasN L y = true) : idxN L y < L.length := by
  induction L with
  | nil => cases h
  | cons a L ih =>
    simp only [hasN, Bool.or_eq_true] at h
    by_cases e : Nat.beq a y = true
    · simp [idxN, e]
    · have h2 := ih (h.resolve_left e)
      simp only [Bool.not_eq_true] at e
      simp only [idxN, e, cond_false, List.length_cons]
      omega
theorem idx_none {L : List Nat} {y : Nat} (h : hasN L y = false) : idxN L y = L.length := by
  induction L with
  | nil => rfl
  | cons a L ih =>
    simp only [hasN, Bool.or_eq_false_iff] at h
    simp [idxN, h.1, ih h.2]
attribute [irreducible] stc mvc fi

end Go.Proofs.Ytkloolhngddpiaa
