/- All that is reached: plain facts of the two lists. No program. -/
import Derived.Test.YtkloolhngddpiaaChkC
namespace Go.Proofs.Ytkloolhngddpiaa
set_option linter.unusedVariables false
set_option maxRecDepth 100000

theorem nx_low {c k : Nat} (h : c < 80) (hk : k < 10) : nx c k < 80 := by
  have := upto_out (all80_out nx_ok c h) k hk
  simpa using this
def low80 (L : List Nat) : Prop := ∀ i, i < L.length → nth L i < 80
theorem low_app {L : List Nat} {y : Nat} (h : low80 L) (hy : y < 80) : low80 (L ++ [y]) := by
  intro i hi
  by_cases e : i < L.length
  · rw [nth_app_lt e]; exact h i e
  · have e2 : i = L.length := by simp at hi; omega
    rw [e2, nth_app_at]; exact hy
theorem put_yes {L : List Nat} {y : Nat} (h : hasN L y = true) : putN L y = L := by simp [putN, h]
theorem put_no {L : List Nat} {y : Nat} (h : hasN L y = false) : putN L y = L ++ [y] := by simp [putN, h]
theorem put_len (L : List Nat) (y : Nat) : L.length ≤ (putN L y).length ∧ (putN L y).length ≤ L.length + 1 := by
  cases h : hasN L y
  · rw [put_no h]; simp
  · rw [put_yes h]; omega
theorem put_low {L : List Nat} {y : Nat} (h : low80 L) (hy : y < 80) : low80 (putN L y) := by
  cases e : hasN L y
  · rw [put_no e]; exact low_app h hy
  · rw [put_yes e]; exact h
theorem put_nth {L : List Nat} {y i : Nat} (hi : i < L.length) : nth (putN L y) i = nth L i := by
  cases e : hasN L y
  · rw [put_no e, nth_app_lt hi]
  · rw [put_yes e]

theorem evs_yes {c k : Nat} (hk : 1 ≤ k) (h : al c k = true) : evs c k = evs c (k - 1) ++ [k] := by
  obtain ⟨j, rfl⟩ : ∃ j, k = j + 1 := ⟨k - 1, by omega⟩
  simp only [evs, h, cond_true]; rfl
theorem evs_no {c k : Nat} (hk : 1 ≤ k) (h : al c k = false) : evs c k = evs c (k - 1) := by
  obtain ⟨j, rfl⟩ : ∃ j, k = j + 1 := ⟨k - 1, by omega⟩
  simp only [evs, h, cond_false]; rfl
theorem evs_len (c k : Nat) : (evs c k).length ≤ k := by
  induction k with
  | zero => simp [evs]
  | succ k ih =>
    cases h : al c (k + 1)
    · rw [evs_no (by omega) h]; exact Nat.le_succ_of_le ih
    · rw [evs_yes (by omega) h]; simpa using ih
theorem evs_in (c k : Nat) : ∀ i, i < (evs c k).length → 1 ≤ nth (evs c k) i ∧ nth (evs c k) i ≤ k := by
  induction k with
  | zero => intro i hi; simp [evs] at hi
  | succ k ih =>
    intro i hi
    cases h : al c (k + 1)
    · rw [evs_no (by omega) h] at hi ⊢
      simp only [Nat.add_sub_cancel] at hi ⊢
      have := ih i hi
      omega
    · rw [evs_yes (by omega) h] at hi ⊢
      simp only [Nat.add_sub_cancel] at hi ⊢
      by_cases e : i < (evs c k).length
      · rw [nth_app_lt e]
        have := ih i e
        omega
      · have e2 : i = (evs c k).length := by simp at hi; omega
        rw [e2, nth_app_at]
        omega
theorem evs_pos : all80 (fun c => Nat.blt 0 (evs c 9).length) 80 = true := by decide +kernel

/-! The program's own way. -/
theorem inI_facts {k : Nat} {s : List Nat × List (Nat × Nat × Nat)} (hk : k < s.1.length) (hl : low80 s.1) : ∀ j, j ≤ (evs (nth s.1 k) 9).length →
    s.1.length ≤ (inI k s j).1.length ∧ (inI k s j).1.length ≤ s.1.length + j ∧ low80 (inI k s j).1 ∧ (∀ i, i < s.1.length → nth (inI k s j).1 i = nth s.1 i) ∧ (inI k s j).2.length = s.2.length + j := by
  intro j
  induction j with
  | zero => intro _; exact ⟨Nat.le_refl _, Nat.le_refl _, hl, fun _ _ => rfl, rfl⟩
  | succ j ih =>
    intro hj
    obtain ⟨h1, h2, h3, h4, h5⟩ := ih (by omega)
    have he := evs_in (nth s.1 k) 9 j (by omega)
    have hy := nx_low (hl k hk) (show nth (evs (nth s.1 k) 9) j < 10 by omega)
    have hp := put_len (inI k s j).1 (nx (nth s.1 k) (nth (evs (nth s.1 k) 9) j))
    refine ⟨?_, ?_, ?_, ?_, ?_⟩
    · show s.1.length ≤ (putN _ _).length; omega
    · show (putN _ _).length ≤ _; omega
    · exact put_low h3 hy
    · intro i hi
      show nth (putN _ _) i = _
      rw [put_nth (by omega), h4 i hi]
    · show ((inI k s j).2 ++ [_]).length = _
      simp [h5]; omega
theorem runI_step {x k : Nat} (h : k < (runI x k).1.length) : runI x (k + 1) = inI k (runI x k) (evs (nth (runI x k).1 k) 9).length := by
  have e : Nat.blt k (runI x k).1.length = true := by simpa using h
  simp only [runI, e, cond_true]
theorem runI_stop1 {x k : Nat} (h : (runI x k).1.length ≤ k) : runI x (k + 1) = runI x k := by
  have e : Nat.blt k (runI x k).1.length = false := by
    cases e : Nat.blt k (runI x k).1.length
    · rfl
    · rw [Nat.blt_eq] at e; omega
  simp only [runI, e, cond_false]
theorem runI_facts {x : Nat} (hx : x < 80) : ∀ k, 1 ≤ (runI x k).1.length ∧ low80 (runI x k).1 ∧ (runI x k).1.length ≤ (runI x (k + 1)).1.length ∧ (runI x k).2.length ≤ 9 * k := by
  intro k
  have key : 1 ≤ (runI x k).1.length ∧ low80 (runI x k).1 ∧ (runI x k).2.length ≤ 9 * k := by
    induction k with
    | zero => exact ⟨Nat.le_refl _, fun i hi => by have e : i = 0 := by simp [runI] at hi; omega
                                                   subst e; exact hx, Nat.le_refl _⟩
    | succ k ih =>
      obtain ⟨h1, h2, h3⟩ := ih
      by_cases h : k < (runI x k).1.length
      · rw [runI_step h]
        obtain ⟨i1, i2, i3, i4, i5⟩ := inI_facts h h2 _ (Nat.le_refl _)
        have := evs_len (nth (runI x k).1 k) 9
        exact ⟨by omega, i3, by omega⟩
      · rw [runI_stop1 (by omega)]
        exact ⟨h1, h2, by omega⟩
  refine ⟨key.1, key.2.1, ?_, key.2.2⟩
  by_cases h : k < (runI x k).1.length
  · rw [runI_step h]
    exact (inI_facts h key.2.1 _ (Nat.le_refl _)).1
  · rw [runI_stop1 (by omega)]
    exact Nat.le_refl _
theorem runI_mono {x : Nat} (hx : x < 80) (k d : Nat) : (runI x k).1.length ≤ (runI x (k + d)).1.length := by
  induction d with
  | zero => exact Nat.le_refl _
  | succ d ih => exact Nat.le_trans ih (runI_facts hx (k + d)).2.2.1
theorem runI_stop {x k : Nat} (hx : x < 80) (h : (runI x k).1.length ≤ k) (d : Nat) : runI x (k + d) = runI x k := by
  induction d with
  | zero => rfl
  | succ d ih =>
    show runI x (k + d + 1) = _
    rw [runI_stop1 (by rw [ih]; omega), ih]

theorem chk0_out {x : Nat} (hx : x < 80) : (runI x 20).1 = R x ∧ (runI x 20).2 = M x ∧ (R x).length ≤ 20 ∧ (M x).length ≤ 45 ∧ fst7 (M x) < (M x).length := by
  have h := all80_out chk0_ok x hx
  unfold chk0 at h
  rw [withX_eq, runIF_eq] at h
  simp only [Bool.and_eq_true, Nat.blt_eq, Nat.ble_eq] at h
  exact ⟨eqL_eq h.1, eqM_eq h.2.1, h.2.2.1, h.2.2.2.1, h.2.2.2.2.2.2.1⟩
theorem nth_mem {L : List Nat} {i : Nat} (h : i < L.length) : nth L i ∈ L := by
  induction L generalizing i with
  | nil => exact absurd h (Nat.not_lt_zero _)
  | cons a L ih => cases i with
    | zero => exact List.mem_cons_self
    | succ i => exact List.mem_cons_of_mem _ (ih (by simpa using h))
theorem nthM_mem {L : List (Nat × Nat × Nat)} {i : Nat} (h : i < L.length) : nthM L i ∈ L := by
  induction L generalizing i with
  | nil => exact absurd h (Nat.not_lt_zero _)
  | cons a L ih => cases i with
    | zero => exact List.mem_cons_self
    | succ i => exact List.mem_cons_of_mem _ (ih (by simpa using h))
theorem R_low {x : Nat} (hx : x < 80) : low80 (R x) := by
  rw [← (chk0_out hx).1]; exact (runI_facts hx 20).2.1
theorem R_pos {x : Nat} (hx : x < 80) : 1 ≤ (R x).length := by
  rw [← (chk0_out hx).1]; exact (runI_facts hx 20).1
theorem M_in {x : Nat} (hx : x < 80) {i : Nat} (hi : i < (M x).length) : (nthM (M x) i).1 < (R x).length ∧ (nthM (M x) i).2.2 < (R x).length ∧ 1 ≤ (nthM (M x) i).2.1 ∧ (nthM (M x) i).2.1 ≤ 9 := by
  have h := all80_out chk0_ok x hx
  unfold chk0 at h
  rw [withX_eq, runIF_eq] at h
  simp only [Bool.and_eq_true] at h
  have h2 := List.all_eq_true.1 h.2.2.2.2.2.1 _ (nthM_mem hi)
  simp only [Bool.and_eq_true, Nat.blt_eq] at h2
  omega
theorem goals7_in {x : Nat} (hx : x < 80) : ∀ g ∈ goals7 (M x), g < (R x).length := by
  have h := all80_out chk0_ok x hx
  unfold chk0 at h
  rw [withX_eq, runIF_eq] at h
  simp only [Bool.and_eq_true] at h
  intro g hg
  have h2 := List.all_eq_true.1 h.2.2.2.2.2.2.2 _ hg
  simpa using h2
theorem reach_end {x k : Nat} (hx : x < 80) (hk : k ≤ 20) (h : (runI x k).1.length ≤ k) : (runI x k).1 = R x ∧ (runI x k).2 = M x := by
  have e := runI_stop hx h (20 - k)
  rw [show k + (20 - k) = 20 by omega] at e
  rw [← e]
  exact ⟨(chk0_out hx).1, (chk0_out hx).2.1⟩
theorem runI_len {x k : Nat} (hx : x < 80) (hk : k ≤ 20) : (runI x k).1.length ≤ 20 := by
  have e := runI_mono hx k (20 - k)
  rw [show k + (20 - k) = 20 by omega, (chk0_out hx).1] at e
  have := (chk0_out hx).2.2.1
  omega

/-! The reference's way. -/
theorem inS_facts {i : Nat} {L : List Nat} (hi : i < L.length) (hl : low80 L) : ∀ j, j ≤ 9 →
    L.length ≤ (inS i L j).length ∧ (inS i L j).length ≤ L.length + j ∧ low80 (inS i L j) := by
  intro j
  induction j with
  | zero => intro _; exact ⟨Nat.le_refl _, Nat.le_refl _, hl⟩
  | succ j ih =>
    intro hj
    obtain ⟨h1, h2, h3⟩ := ih (by omega)
    cases ha : al (nth (inS i L j) i) (j + 1)
    · have e : inS i L (j + 1) = inS i L j := by simp only [inS, ha, cond_false]
      rw [e]; exact ⟨h1, by omega, h3⟩
    · have e : inS i L (j + 1) = putN (inS i L j) (nx (nth (inS i L j) i) (j + 1)) := by simp only [inS, ha, cond_true]
      have hp := put_len (inS i L j) (nx (nth (inS i L j) i) (j + 1))
      rw [e]
      exact ⟨by omega, by omega, put_low h3 (nx_low (h3 i (by omega)) (by omega))⟩
theorem inS_yes {i k : Nat} {L : List Nat} (hk : 1 ≤ k) (ha : al (nth (inS i L (k - 1)) i) k = true) : inS i L k = putN (inS i L (k - 1)) (nx (nth (inS i L (k - 1)) i) k) := by
  obtain ⟨j, rfl⟩ : ∃ j, k = j + 1 := ⟨k - 1, by omega⟩
  simp only [Nat.add_sub_cancel] at ha ⊢
  simp only [inS, ha, cond_true]
theorem inS_no {i k : Nat} {L : List Nat} (hk : 1 ≤ k) (ha : al (nth (inS i L (k - 1)) i) k = false) : inS i L k = inS i L (k - 1) := by
  obtain ⟨j, rfl⟩ : ∃ j, k = j + 1 := ⟨k - 1, by omega⟩
  simp only [Nat.add_sub_cancel] at ha ⊢
  simp only [inS, ha, cond_false]
theorem runS_step {x k : Nat} (h : k < (runS x k).length) : runS x (k + 1) = inS k (runS x k) 9 := by
  have e : Nat.blt k (runS x k).length = true := by simpa using h
  simp only [runS, e, cond_true]
theorem runS_stop1 {x k : Nat} (h : (runS x k).length ≤ k) : runS x (k + 1) = runS x k := by
  have e : Nat.blt k (runS x k).length = false := by
    cases e : Nat.blt k (runS x k).length
    · rfl
    · rw [Nat.blt_eq] at e; omega
  simp only [runS, e, cond_false]
theorem runS_facts {x : Nat} (hx : x < 80) : ∀ k, 1 ≤ (runS x k).length ∧ low80 (runS x k) ∧ (runS x k).length ≤ (runS x (k + 1)).length := by
  intro k
  have key : 1 ≤ (runS x k).length ∧ low80 (runS x k) := by
    induction k with
    | zero => exact ⟨Nat.le_refl _, fun i hi => by have e : i = 0 := by simp [runS] at hi; omega
                                                   subst e; exact hx⟩
    | succ k ih =>
      obtain ⟨h1, h2⟩ := ih
      by_cases h : k < (runS x k).length
      · rw [runS_step h]
        obtain ⟨i1, i2, i3⟩ := inS_facts h h2 9 (Nat.le_refl _)
        exact ⟨by omega, i3⟩
      · rw [runS_stop1 (by omega)]
        exact ⟨h1, h2⟩
  refine ⟨key.1, key.2, ?_⟩
  by_cases h : k < (runS x k).length
  · rw [runS_step h]
    exact (inS_facts h key.2 9 (Nat.le_refl _)).1
  · rw [runS_stop1 (by omega)]
    exact Nat.le_refl _
theorem runS_mono {x : Nat} (hx : x < 80) (k d : Nat) : (runS x k).length ≤ (runS x (k + d)).length := by
  induction d with
  | zero => exact Nat.le_refl _
  | succ d ih => exact Nat.le_trans ih (runS_facts hx (k + d)).2.2
theorem runS_len {x k : Nat} (hx : x < 80) (hk : k ≤ 20) : (runS x k).length ≤ 20 := by
  have e := runS_mono hx k (20 - k)
  rw [show k + (20 - k) = 20 by omega] at e
  have : (R x).length ≤ 20 := (chk0_out hx).2.2.1
  exact Nat.le_trans e this
theorem runS_end {x k : Nat} (hx : x < 80) (hk : k ≤ 20) (h : (runS x k).length ≤ k) : runS x k = R x := by
  have e : ∀ d, runS x (k + d) = runS x k := by
    intro d
    induction d with
    | zero => rfl
    | succ d ih =>
      show runS x (k + d + 1) = _
      rw [runS_stop1 (by rw [ih]; omega), ih]
  have e := e (20 - k)
  rw [show k + (20 - k) = 20 by omega] at e
  exact e.symm
theorem mvI_yes {L : List Nat} {i k : Nat} (hk : 1 ≤ k) (ha : al (nth L i) k = true) : mvI L i k = mvI L i (k - 1) ++ [(i, k, idxN L (nx (nth L i) k))] := by
  obtain ⟨j, rfl⟩ : ∃ j, k = j + 1 := ⟨k - 1, by omega⟩
  simp only [mvI, ha, cond_true]; rfl
theorem mvI_no {L : List Nat} {i k : Nat} (hk : 1 ≤ k) (ha : al (nth L i) k = false) : mvI L i k = mvI L i (k - 1) := by
  obtain ⟨j, rfl⟩ : ∃ j, k = j + 1 := ⟨k - 1, by omega⟩
  simp only [mvI, ha, cond_false]; rfl
theorem mvI_len (L : List Nat) (i k : Nat) : (mvI L i k).length ≤ k := by
  induction k with
  | zero => simp [mvI]
  | succ k ih =>
    cases h : al (nth L i) (k + 1)
    · rw [mvI_no (by omega) h]; exact Nat.le_succ_of_le ih
    · rw [mvI_yes (by omega) h]; simpa using ih
theorem mvS_len (L : List Nat) (i : Nat) : (mvS L i).length ≤ 9 * i := by
  induction i with
  | zero => simp [mvS]
  | succ i ih =>
    have := mvI_len L i 9
    show (mvS L i ++ mvI L i 9).length ≤ _
    simp only [List.length_append]; omega
/-- Within what is reached every move leads to what is reached. -/
theorem R_closed : all80 (fun x => forceL (R x) fun L => upto L.length fun i => forceN (nth L i) fun c => upto 10 fun k => !al c k || Nat.beq k 0 || hasN L (nx c k)) 80 = true := by decide +kernel
theorem R_has {x i k : Nat} (hx : x < 80) (hi : i < (R x).length) (hk : 1 ≤ k ∧ k ≤ 9) (ha : al (nth (R x) i) k = true) : hasN (R x) (nx (nth (R x) i) k) = true := by
  have h := all80_out R_closed x hx
  simp only [forceL_eq, forceN_eq] at h
  have h2 := upto_out (upto_out h i hi) k (by omega)
  simp only [ha, Bool.not_true, Bool.false_or, Bool.or_eq_true] at h2
  rcases h2 with h2 | h2
  · have := Nat.eq_of_beq_eq_true h2; omega
  · exact h2

end Go.Proofs.Ytkloolhngddpiaa
