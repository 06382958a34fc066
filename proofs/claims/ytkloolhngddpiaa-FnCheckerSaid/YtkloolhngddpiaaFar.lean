/- How far: the reference's walk. -/
import Derived.Test.YtkloolhngddpiaaChkE
import Derived.StillTailTactics
import Derived.IntWalk
namespace Go.Proofs.Ytkloolhngddpiaa
open Go.RowKit Go.Deep
set_option linter.unusedVariables false
set_option maxRecDepth 100000

theorem nth_setN {l : List Nat} {i j v : Nat} (hi : i < l.length) : nth (setN l i v) j = if j = i then v else nth l j := by
  induction l generalizing i j with
  | nil => exact absurd hi (Nat.not_lt_zero _)
  | cons a l ih =>
    cases i with
    | zero => cases j with
      | zero => rfl
      | succ j => rfl
    | succ i => cases j with
      | zero => rfl
      | succ j =>
        have := ih (i := i) (j := j) (by simpa using hi)
        show nth (setN l i v) j = _
        rw [this]
        by_cases e : j = i
        · rw [if_pos e, if_pos (by omega)]
        · rw [if_neg e, if_neg (by omega)]; rfl
/-- Distances as cells: one less than the number. -/
def fc (l : List Nat) : Nat → Value := fun j => .int .i64 (((nth l j : Nat) : Int) - 1)
def FarRow (w : World) (g cap n : Nat) (l : List Nat) : Prop := ∃ F, w.rowIs g 2 cap F ∧ (∀ i, i < n → F i = fc l i) ∧ n ≤ cap ∧ l.length = n
theorem FarRow.of_out {w : World} {B g n cap : Nat} {l : List Nat} (h : Out w B 2 1 (.slice (some ⟨g, 0, none⟩) n cap) n (fc l)) (hl : l.length = n) : FarRow w g cap n l ∧ B ≤ g ∧ cap ≤ maxLen := by
  rcases h.2 with ⟨h1, _⟩ | ⟨g', cap', cur, h1, h2, h3, h4, h5, h6, h7⟩
  · cases h1
  · obtain ⟨rfl, rfl⟩ : g = g' ∧ cap = cap' := by simpa using h1
    refine ⟨⟨fun i => cur.getD i undef, ⟨cur, h3, by omega, fun i hi => by simp [Array.getD, show i < cur.size by omega]⟩, fun i hi => ?_, h4, hl⟩, h2, h5⟩
    have h8 := cellsN_getD (f := fc l) (m := n * 1) (j := i) (by omega)
    have h9 : (cellsN (fc l) (n * 1)).getD i undef = cur.getD i undef := by
      rw [← h7]
      simp [List.getD, Array.getD, show i < n by omega, show i < cur.size by omega]
    rw [h9] at h8
    exact h8
theorem FarRow.out {w : World} {B g n cap : Nat} {l : List Nat} (h : FarRow w g cap n l) (hB : B ≤ g) (hc : cap ≤ maxLen) : Out w B 2 1 (.slice (some ⟨g, 0, none⟩) n cap) n (fc l) := by
  obtain ⟨F, ⟨c, hc1, hs, hf⟩, hF, hn, hl⟩ := h
  refine ⟨by simp [cellsN], .inr ⟨g, cap, c, rfl, hB, hc1, hn, hc, by omega, ?_⟩⟩
  rw [Nat.mul_one]
  apply List.ext_getElem?
  intro i
  by_cases hi : i < n
  · rw [List.getElem?_take_of_lt hi]
    have := hf i (by omega)
    rw [← Array.getElem?_toList] at this
    rw [this, hF i hi]
    simp [cellsN, hi]
  · rw [List.getElem?_eq_none (by simp; omega), List.getElem?_eq_none (by simp [cellsN]; omega)]
theorem FarRow.cell {w : World} {g cap n i a : Nat} {l : List Nat} (h : FarRow w g cap n l) (hi : i < n) (ha : nth l i = a) : w.cell? ⟨g, i, none⟩ = some (.int .i64 ((a : Int) - 1)) := by
  obtain ⟨F, hr, hF, hn, hl⟩ := h
  rw [hr.cell (i := i) (by omega), hF i hi]
  simp only [fc, ha]
theorem FarRow.frozen {w : World} {g cap n : Nat} {l : List Nat} (h : FarRow w g cap n l) (i : Nat) : w.frozen? ⟨g, i, none⟩ = false := by
  obtain ⟨F, hr, _⟩ := h
  exact hr.frozen i
theorem FarRow.lt {w : World} {g cap n : Nat} {l : List Nat} (h : FarRow w g cap n l) : g < w.heap.size := by
  obtain ⟨F, hr, _⟩ := h
  exact hr.lt
theorem FarRow.kept {w w' : World} {g cap n : Nat} {l : List Nat} (h : FarRow w g cap n l) (hb : Below w.heap.size w w') : FarRow w' g cap n l := by
  obtain ⟨F, hr, h2⟩ := h
  exact ⟨F, hr.of_block (hb.block g hr.lt), h2⟩
theorem FarRow.set {w : World} {g cap n i : Nat} {l : List Nat} (h : FarRow w g cap n l) (hi : i < n) (v : Nat) : FarRow (w.setCell ⟨g, i, none⟩ (.int .i64 ((v : Int) - 1))) g cap n (setN l i v) := by
  obtain ⟨F, hr, hF, hn, hl⟩ := h
  refine ⟨_, hr.set i _, fun j hj => ?_, hn, by rw [setN_len]; exact hl⟩
  simp only [fc, nth_setN (show i < l.length by omega)]
  by_cases e : j = i
  · simp [e]
  · simp only [e, if_false]
    exact hF j hj

/-! The loops, by their rounds. -/
def gK (gs : List Nat) (n : Nat) : Nat → List Nat
  | 0 => List.replicate n 0
  | k + 1 => setN (gK gs n k) (nth gs k) 1
def rK (ms : List (Nat × Nat × Nat)) (l : List Nat) : Nat → List Nat
  | 0 => l
  | k + 1 => rel1 (rK ms l k) (nthM ms k)
theorem take_nth {L : List Nat} {k : Nat} (h : k < L.length) : L.take (k + 1) = L.take k ++ [nth L k] := by
  induction L generalizing k with
  | nil => exact absurd h (Nat.not_lt_zero _)
  | cons a L ih => cases k with
    | zero => rfl
    | succ k =>
      have := ih (k := k) (by simpa using h)
      simp only [List.take_succ_cons, this, nth, List.cons_append]
theorem take_nthM {L : List (Nat × Nat × Nat)} {k : Nat} (h : k < L.length) : L.take (k + 1) = L.take k ++ [nthM L k] := by
  induction L generalizing k with
  | nil => exact absurd h (Nat.not_lt_zero _)
  | cons a L ih => cases k with
    | zero => rfl
    | succ k =>
      have := ih (k := k) (by simpa using h)
      simp only [List.take_succ_cons, this, nthM, List.cons_append]
theorem gK_take (gs : List Nat) (n k : Nat) (h : k ≤ gs.length) : gK gs n k = (gs.take k).foldl (fun o k => setN o k 1) (List.replicate n 0) := by
  induction k with
  | zero => rfl
  | succ k ih =>
    rw [take_nth (by omega), List.foldl_append, ← ih (by omega)]
    rfl
theorem rK_take (ms : List (Nat × Nat × Nat)) (l : List Nat) (k : Nat) (h : k ≤ ms.length) : rK ms l k = (ms.take k).foldl rel1 l := by
  induction k with
  | zero => rfl
  | succ k ih =>
    rw [take_nthM (by omega), List.foldl_append, ← ih (by omega)]
    rfl
theorem gK_end (gs : List Nat) (n : Nat) : gK gs n gs.length = goal0 n gs := by rw [gK_take gs n _ (Nat.le_refl _), List.take_length]; rfl
theorem rK_end (ms : List (Nat × Nat × Nat)) (l : List Nat) (r : Nat) : rK ms (relN ms l r) ms.length = relN ms l (r + 1) := by rw [rK_take _ _ _ (Nat.le_refl _), List.take_length]; rfl
theorem gK_len (gs : List Nat) (n k : Nat) : (gK gs n k).length = n := by
  induction k with
  | zero => simp [gK]
  | succ k ih => simp only [gK, setN_len, ih]
theorem rK_len (ms : List (Nat × Nat × Nat)) (l : List Nat) (k : Nat) : (rK ms l k).length = l.length := by
  induction k with
  | zero => rfl
  | succ k ih =>
    simp only [rK, rel1]
    rw [show ∀ (b : Bool) (x y : List Nat), (bif b then x else y).length = bif b then x.length else y.length from fun b x y => by cases b <;> rfl]
    rw [setN_len, ih]
    simp
theorem rel1_no {l : List Nat} {f e t : Nat} (h : nth l t = 0 ∨ (1 ≤ nth l f ∧ nth l f ≤ nth l t + 1)) : rel1 l (f, e, t) = l := by
  unfold rel1
  have hc : (Nat.blt 0 (nth l t) && (Nat.beq (nth l f) 0 || Nat.blt (Nat.succ (nth l t)) (nth l f))) = false := by
    cases hc : (Nat.blt 0 (nth l t) && (Nat.beq (nth l f) 0 || Nat.blt (Nat.succ (nth l t)) (nth l f)))
    · rfl
    · simp only [Bool.and_eq_true, Bool.or_eq_true, Nat.blt_eq] at hc
      obtain ⟨h1, h2⟩ := hc
      rcases h2 with h2 | h2
      · have := Nat.eq_of_beq_eq_true h2; omega
      · omega
  show cond _ _ _ = _
  rw [hc]; rfl
theorem rel1_yes {l : List Nat} {f e t : Nat} (h1 : 1 ≤ nth l t) (h2 : nth l f = 0 ∨ nth l t + 1 < nth l f) : rel1 l (f, e, t) = setN l f (nth l t + 1) := by
  unfold rel1
  have hc : (Nat.blt 0 (nth l t) && (Nat.beq (nth l f) 0 || Nat.blt (Nat.succ (nth l t)) (nth l f))) = true := by
    simp only [Bool.and_eq_true, Bool.or_eq_true, Nat.blt_eq]
    refine ⟨by omega, ?_⟩
    rcases h2 with h2 | h2
    · left; rw [h2]; rfl
    · right; omega
  show cond _ _ _ = _
  rw [hc]; rfl
theorem nth_rep (n j : Nat) : nth (List.replicate n 0) j = 0 := by
  induction n generalizing j with
  | zero => rfl
  | succ n ih => cases j with
    | zero => rfl
    | succ j => exact ih j
theorem max_rel {l : List Nat} {b : Nat} (m : Nat × Nat × Nat) (h : ∀ i, nth l i ≤ b) : ∀ i, nth (rel1 l m) i ≤ b + 1 := by
  intro i
  unfold rel1
  cases (Nat.blt 0 (nth l m.2.2) && (Nat.beq (nth l m.1) 0 || Nat.blt (Nat.succ (nth l m.2.2)) (nth l m.1)))
  · have := h i; show nth l i ≤ _; omega
  · show nth (setN l m.1 (Nat.succ (nth l m.2.2))) i ≤ _
    by_cases hi : m.1 < l.length
    · rw [nth_setN hi]
      split
      · have := h m.2.2; omega
      · have := h i; omega
    · have e : ∀ (l : List Nat) (i v : Nat), l.length ≤ i → setN l i v = l := by
        intro l
        induction l with
        | nil => intro i v _; rfl
        | cons a l ih => intro i v hi; cases i with
          | zero => simp at hi
          | succ i => simp only [setN, ih i v (by simpa using hi)]
      rw [e _ _ _ (by omega)]
      have := h i; omega
attribute [irreducible] fc

end Go.Proofs.Ytkloolhngddpiaa
