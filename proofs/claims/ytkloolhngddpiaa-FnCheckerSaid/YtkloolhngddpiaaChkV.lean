/- What the law on the checker asks of each state's two lists: plain, by the kernel. No program. -/
import Derived.Test.YtkloolhngddpiaaChkP
namespace Go.Proofs.Ytkloolhngddpiaa
set_option maxRecDepth 100000

def nodupN : List Nat → Bool
  | [] => true
  | a :: l => !hasN l a && nodupN l
/-- Whether a state is safe. -/
def safeM (m : Nat) (o e : Bool) : Bool := cond (Nat.beq m 2 || Nat.beq m 3) (!o && !e) true
def safeC (c : Nat) : Bool := safeM (cm c) (co c) (ce c)
/-- The first state that is not safe. -/
def unsN : List Nat → Nat
  | [] => 0
  | a :: l => cond (safeC a) (Nat.succ (unsN l)) 0
def allS : List Nat → Bool
  | [] => true
  | a :: l => safeC a && allS l
/-- Whether some events lead from a state to another one. -/
def wk (c : Nat) (E : List Nat) (y : Nat) : Bool :=
  match E with
  | [] => Nat.beq c y
  | e :: E => Nat.blt 0 e && (Nat.blt e 10 && (al c e && wk (nx c e) E y))
def wkF (c : Nat) (E : List Nat) (y : Nat) : Bool :=
  match E with
  | [] => Nat.beq c y
  | e :: E => Nat.blt 0 e && (Nat.blt e 10 && (al c e && forceN (nx c e) fun c => wkF c E y))
theorem wkF_eq (E : List Nat) (c y : Nat) : wkF c E y = wk c E y := by
  induction E generalizing c with
  | nil => rfl
  | cons e E ih => simp only [wkF, wk, forceN_eq, ih]
def chkV (x : Nat) : Bool := withX x fun L ms => Nat.beq (nth L 0) x && (nodupN L && (Nat.ble (Nat.succ (nth (stepsAt L.length ms (fst7 ms)) (nthM ms (fst7 ms)).1)) L.length &&
  upto L.length fun k => forceL (pathI ms 21 k) fun P => Nat.blt P.length L.length && forceL ((P.map fun b => (nthM ms b).2.1).reverse) fun E => forceN (nth L k) fun y => wkF x E y))
theorem chkV_ok : all80 chkV 80 = true := by decide +kernel
theorem allS_8 : allS (R 8) = true := by decide +kernel

theorem chkV_out {x : Nat} (hx : x < 80) : nth (R x) 0 = x ∧ nodupN (R x) = true ∧ few x ≤ (R x).length ∧
    ∀ k, k < (R x).length → (pathI (M x) 21 k).length < (R x).length ∧ wk x ((pathI (M x) 21 k).map fun b => (nthM (M x) b).2.1).reverse (nth (R x) k) = true := by
  have h := all80_out chkV_ok x hx
  unfold chkV at h
  simp only [withX_eq, Bool.and_eq_true, forceL_eq, forceN_eq, wkF_eq] at h
  obtain ⟨h1, h2, h3, h4⟩ := h
  refine ⟨Nat.eq_of_beq_eq_true h1, h2, Nat.le_of_ble_eq_true h3, fun k hk => ?_⟩
  have h5 := upto_out h4 k hk
  simp only [Bool.and_eq_true, Nat.blt_eq] at h5
  exact h5

theorem has_nth {L : List Nat} {i : Nat} (h : i < L.length) : hasN L (nth L i) = true := by
  induction L generalizing i with
  | nil => exact absurd h (Nat.not_lt_zero _)
  | cons a L ih => cases i with
    | zero => simp [hasN, nth]
    | succ i => simp [hasN, nth, ih (i := i) (by simpa using h)]
theorem nodup_ne {L : List Nat} (h : nodupN L = true) {i k : Nat} (hk : k < i) (hi : i < L.length) : nth L k ≠ nth L i := by
  induction L generalizing i k with
  | nil => exact absurd hi (Nat.not_lt_zero _)
  | cons a L ih =>
    simp only [nodupN, Bool.and_eq_true, Bool.not_eq_true'] at h
    cases i with
    | zero => omega
    | succ i => cases k with
      | zero =>
        intro e
        have := has_nth (L := L) (i := i) (by simpa using hi)
        have e2 : a = nth L i := e
        rw [e2, this] at h
        cases h.1
      | succ k => exact ih h.2 (by omega) (by simpa using hi)
theorem nth_idx {L : List Nat} {y : Nat} (h : hasN L y = true) : nth L (idxN L y) = y := by
  induction L with
  | nil => cases h
  | cons a L ih =>
    simp only [hasN, Bool.or_eq_true] at h
    cases e : Nat.beq a y
    · rw [e] at h
      simp only [idxN, e, cond_false]
      exact ih (h.resolve_left (by simp))
    · simp only [idxN, e, cond_true]
      exact Nat.eq_of_beq_eq_true e
theorem idx_nth {L : List Nat} (h : nodupN L = true) {i : Nat} (hi : i < L.length) : idxN L (nth L i) = i := by
  induction L generalizing i with
  | nil => exact absurd hi (Nat.not_lt_zero _)
  | cons a L ih =>
    cases i with
    | zero => simp [idxN, nth]
    | succ i =>
      have h0 := nodup_ne h (k := 0) (i := i + 1) (by omega) hi
      simp only [nodupN, Bool.and_eq_true] at h
      have e : Nat.beq a (nth L i) = false := by
        cases e : Nat.beq a (nth L i)
        · rfl
        · exact absurd (Nat.eq_of_beq_eq_true e) h0
      show idxN (a :: L) (nth L i) = i + 1
      simp only [idxN, e, cond_false, ih h.2 (i := i) (by simpa using hi)]
theorem uns_lt {L : List Nat} {i : Nat} (h : i < unsN L) : safeC (nth L i) = true := by
  induction L generalizing i with
  | nil => exact absurd h (Nat.not_lt_zero _)
  | cons a L ih =>
    cases e : safeC a
    · simp [unsN, e] at h
    · cases i with
      | zero => exact e
      | succ i => exact ih (by simpa [unsN, e] using h)
theorem uns_at {L : List Nat} (h : allS L = false) : unsN L < L.length ∧ safeC (nth L (unsN L)) = false := by
  induction L with
  | nil => cases h
  | cons a L ih =>
    cases e : safeC a
    · have e2 : unsN (a :: L) = 0 := by simp only [unsN, e, cond_false]
      rw [e2]
      exact ⟨by simp, e⟩
    · have e2 : unsN (a :: L) = unsN L + 1 := by simp only [unsN, e, cond_true]
      have h2 : allS L = false := by simpa [allS, e] using h
      rw [e2]
      exact ⟨by simpa using (ih h2).1, (ih h2).2⟩
theorem allS_at {L : List Nat} (h : allS L = true) {i : Nat} (hi : i < L.length) : safeC (nth L i) = true := by
  induction L generalizing i with
  | nil => exact absurd hi (Nat.not_lt_zero _)
  | cons a L ih =>
    simp only [allS, Bool.and_eq_true] at h
    cases i with
    | zero => exact h.1
    | succ i => exact ih h.2 (by simpa using hi)
/-- Whether the first states are safe. -/
def safeK (L : List Nat) : Nat → Bool
  | 0 => true
  | k + 1 => safeK L k && safeC (nth L k)
theorem safeK_all {L : List Nat} : safeK L L.length = allS L := by
  have key : ∀ (L P : List Nat), safeK (P ++ L) (P ++ L).length = (safeK (P ++ L) P.length && allS L) := by
    intro L
    induction L with
    | nil => intro P; simp [allS]
    | cons a L ih =>
      intro P
      have h := ih (P ++ [a])
      simp only [List.append_assoc, List.cons_append, List.nil_append, List.length_append, List.length_cons, List.length_nil] at h
      rw [List.length_append, List.length_cons]
      rw [h]
      have ha : nth (P ++ a :: L) P.length = a := by
        clear h ih
        induction P with
        | nil => rfl
        | cons b P ih => exact ih
      simp only [safeK, ha, allS, Bool.and_assoc]
  have := key L []
  simpa [safeK] using this

/-! The moves in their order. -/
theorem mvI_pre (L : List Nat) (i : Nat) {j n : Nat} (h : j ≤ n) : ∃ r, mvI L i n = mvI L i j ++ r := by
  induction n with
  | zero => obtain rfl : j = 0 := by omega
            exact ⟨[], by simp⟩
  | succ n ih =>
    by_cases e : j = n + 1
    · exact ⟨[], by rw [e]; simp⟩
    · obtain ⟨r, hr⟩ := ih (by omega)
      show ∃ r, cond _ _ _ = _
      cases al (nth L i) (n + 1)
      · exact ⟨r, hr⟩
      · exact ⟨r ++ [(i, n + 1, idxN L (nx (nth L i) (n + 1)))], by rw [cond_true, hr, List.append_assoc]⟩
theorem mvS_pre (L : List Nat) {i n : Nat} (h : i ≤ n) : ∃ r, mvS L n = mvS L i ++ r := by
  induction n with
  | zero => obtain rfl : i = 0 := by omega
            exact ⟨[], by simp⟩
  | succ n ih =>
    by_cases e : i = n + 1
    · exact ⟨[], by rw [e]; simp⟩
    · obtain ⟨r, hr⟩ := ih (by omega)
      exact ⟨r ++ mvI L n 9, by show mvS L n ++ mvI L n 9 = _; rw [hr, List.append_assoc]⟩
theorem mv_pre (L : List Nat) {i j n : Nat} (hi : i < n) (hj : j ≤ 9) : ∃ r, mvS L n = mvS L i ++ mvI L i j ++ r := by
  obtain ⟨r1, h1⟩ := mvS_pre L (i := i + 1) (n := n) hi
  obtain ⟨r2, h2⟩ := mvI_pre L i hj
  exact ⟨r2 ++ r1, by rw [h1]; show mvS L i ++ mvI L i 9 ++ r1 = _; rw [h2]; simp⟩
theorem nthM_mid (A r : List (Nat × Nat × Nat)) (m : Nat × Nat × Nat) : nthM (A ++ m :: r) A.length = m := by
  induction A with
  | nil => rfl
  | cons a A ih => exact ih
/-- The move at its place. -/
theorem mv_at (L : List Nat) {i j n : Nat} (hi : i < n) (hj : j < 9) (ha : al (nth L i) (j + 1) = true) :
    (mvS L i ++ mvI L i j).length < (mvS L n).length ∧ nthM (mvS L n) (mvS L i ++ mvI L i j).length = (i, j + 1, idxN L (nx (nth L i) (j + 1))) ∧ mvI L i (j + 1) = mvI L i j ++ [(i, j + 1, idxN L (nx (nth L i) (j + 1)))] := by
  obtain ⟨r, hr⟩ := mv_pre L (i := i) (j := j + 1) hi (by omega)
  have e : mvI L i (j + 1) = mvI L i j ++ [(i, j + 1, idxN L (nx (nth L i) (j + 1)))] := by
    show cond _ _ _ = _
    rw [ha]; rfl
  rw [e] at hr
  have hr2 : mvS L n = (mvS L i ++ mvI L i j) ++ (i, j + 1, idxN L (nx (nth L i) (j + 1))) :: r := by rw [hr]; simp
  refine ⟨by rw [hr2]; simp, ?_, e⟩
  rw [hr2, nthM_mid]
theorem mv_not (L : List Nat) {i j : Nat} (ha : al (nth L i) (j + 1) = false) : mvI L i (j + 1) = mvI L i j := by
  show cond _ _ _ = _
  rw [ha]; rfl
theorem few_pos' (x : Nat) : 1 ≤ few x := Nat.succ_le_succ (Nat.zero_le _)
/-- How many moves come ahead of a state's event. -/
def pos (L : List Nat) (i j : Nat) : Nat := (mvS L i ++ mvI L i j).length
theorem pos_yes (L : List Nat) {i j n : Nat} (hi : i < n) (hj : j < 9) (ha : al (nth L i) (j + 1) = true) :
    pos L i j < (mvS L n).length ∧ nthM (mvS L n) (pos L i j) = (i, j + 1, idxN L (nx (nth L i) (j + 1))) ∧ pos L i (j + 1) = pos L i j + 1 := by
  obtain ⟨h1, h2, h3⟩ := mv_at L hi hj ha
  refine ⟨h1, h2, ?_⟩
  unfold pos
  rw [h3, ← List.append_assoc]
  simp only [List.length_append, List.length_cons, List.length_nil]
theorem pos_no (L : List Nat) {i j : Nat} (ha : al (nth L i) (j + 1) = false) : pos L i (j + 1) = pos L i j := by
  unfold pos; rw [mv_not L ha]
theorem pos_next (L : List Nat) (i : Nat) : pos L (i + 1) 0 = pos L i 9 := by
  unfold pos
  show (mvS L i ++ mvI L i 9 ++ []).length = _
  rw [List.append_nil]
theorem pos_zero (L : List Nat) : pos L 0 0 = 0 := rfl
theorem pos_end (L : List Nat) (n : Nat) : pos L n 0 = (mvS L n).length := by
  unfold pos
  show (mvS L n ++ []).length = _
  rw [List.append_nil]
theorem pos_le (L : List Nat) {i j n : Nat} (hi : i < n) (hj : j ≤ 9) : pos L i j ≤ (mvS L n).length := by
  obtain ⟨r, hr⟩ := mv_pre L hi hj
  rw [hr]
  unfold pos
  simp only [List.length_append]
  omega
theorem wk_cons {c e y : Nat} {E : List Nat} (h : wk c (e :: E) y = true) : (1 ≤ e ∧ e ≤ 9) ∧ al c e = true ∧ wk (nx c e) E y = true := by
  simp only [wk, Bool.and_eq_true, Nat.blt_eq] at h
  exact ⟨⟨h.1, by omega⟩, h.2.2.1, h.2.2.2⟩
theorem wk_nil {c y : Nat} (h : wk c [] y = true) : c = y := Nat.eq_of_beq_eq_true h
theorem drop_nth {E : List Nat} {i : Nat} (h : i < E.length) : E.drop i = nth E i :: E.drop (i + 1) := by
  induction E generalizing i with
  | nil => exact absurd h (Nat.not_lt_zero _)
  | cons a E ih => cases i with
    | zero => rfl
    | succ i => exact ih (by simpa using h)
attribute [irreducible] safeC wk pos
end Go.Proofs.Ytkloolhngddpiaa
