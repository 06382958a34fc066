/- The cheapest fares: what the law on trips asks of them. Plain, no program. -/
import Derived.Test.YtjmklkhdemolmaaGreatDoorCheapQ
namespace Go.Proofs.YtjmklkhdemolmaaGreatDoor
open Go.RowKit Go.Deep
set_option linter.unusedVariables false
set_option maxRecDepth 100000

theorem pkF_min {z c r d : Nat → Int} {a b m j : Nat} (h : pkF z c r d a b m = some j) : fitF z r d a b j = true ∧ ∀ i, i < m → fitF z r d a b i = true → c j ≤ c i := by
  induction m generalizing j with
  | zero => unfold pkF at h; cases h
  | succ m ih =>
    cases hm : fitF z r d a b m
    · rw [pkF_not hm] at h
      obtain ⟨h1, h2⟩ := ih h
      refine ⟨h1, fun i hi hf => ?_⟩
      by_cases e : i = m
      · rw [e, hm] at hf; cases hf
      · exact h2 i (by omega) hf
    · cases hp : pkF z c r d a b m with
      | none =>
        rw [pkF_none hp hm] at h
        obtain rfl : m = j := Option.some.inj h
        refine ⟨hm, fun i hi hf => ?_⟩
        by_cases e : i = m
        · rw [e]; exact Int.le_refl _
        · obtain ⟨j', hj'⟩ := pkF_some (c := c) (show i < m by omega) hf
          rw [hp] at hj'; cases hj'
      | some j0 =>
        obtain ⟨h1, h2⟩ := ih hp
        by_cases hc : c m < c j0
        · rw [pkF_less hp hm hc] at h
          obtain rfl : m = j := Option.some.inj h
          refine ⟨hm, fun i hi hf => ?_⟩
          by_cases e : i = m
          · rw [e]; exact Int.le_refl _
          · have := h2 i (by omega) hf; omega
        · rw [pkF_more hp hm (by omega)] at h
          obtain rfl : j0 = j := Option.some.inj h
          refine ⟨h1, fun i hi hf => ?_⟩
          by_cases e : i = m
          · rw [e]; omega
          · exact h2 i (by omega) hf
theorem fit_out {z r d : Nat → Int} {a b j : Nat} (h : fitF z r d a b j = true) : (b : Int) - a ≤ r j ∧ z (b - 1) - z a < d j := by
  unfold fitF at h
  simpa using h
theorem fit_in {z r d : Nat → Int} {a b j : Nat} (h1 : (b : Int) - a ≤ r j) (h2 : z (b - 1) - z a < d j) : fitF z r d a b j = true := by
  unfold fitF
  simp [h1, h2]

section
variable {z b c d : Nat → Int} {m n : Nat} {L : Nat → Int} {P : Nat → Nat}
/-- The first part from i on. -/
theorem Good.part (h : Good z b c d m n L P) {i : Nat} (hi : i < n) : i < P i ∧ P i ≤ n ∧ ∃ j, j < m ∧ pkF z b c d i (P i) m = some j ∧ L i = b j + L (P i) ∧ ((P i : Nat) : Int) - i ≤ c j := by
  have hb := h.best i hi
  obtain ⟨j, hj, hp, hx⟩ := partV_some hb.at_
  exact ⟨hb.lo, hb.hi, j, hj, hp, hx, (fit_out (pkF_min hp).1).1⟩
theorem Good.steps (h : Good z b c d m n L P) : ∀ t, (∀ s, s < t → stF P s < n) → t ≤ stF P t ∧ stF P t ≤ n := by
  intro t
  induction t with
  | zero => intro _; rw [stF_zero]; omega
  | succ t ih =>
    intro hs
    have h1 := ih (fun s hs' => hs s (by omega))
    obtain ⟨p1, p2, -⟩ := h.part (hs t (by omega))
    rw [stF_succ]
    omega
theorem Good.ends (h : Good z b c d m n L P) : endF P n ≤ n ∧ stF P (endF P n) = n ∧ ∀ s, s < endF P n → stF P s < n := by
  obtain ⟨s1, s2⟩ := firstTo_spec (fun t => decide (n ≤ stF P t)) (n + 1)
  have hE : endF P n = firstTo (fun t => decide (n ≤ stF P t)) (n + 1) := by unfold endF; rfl
  rw [← hE] at s1 s2
  have hno : ∀ s, s < endF P n → stF P s < n := fun s hs => by have := s1 s hs; simpa using this
  have hle : endF P n ≤ n := by
    rcases Nat.lt_or_ge n (endF P n) with hlt | hge
    · have h1 := h.steps n (fun s hs => hno s (by omega))
      have := hno n hlt
      omega
    · exact hge
  have hy := s2 (by omega)
  have h1 := h.steps (endF P n) hno
  have hy2 : n ≤ stF P (endF P n) := by simpa using hy
  exact ⟨hle, by omega, hno⟩
/-- The fare of part t. -/
def jt (z b c d : Nat → Int) (m : Nat) (P : Nat → Nat) (t : Nat) : Nat := (pkF z b c d (stF P t) (P (stF P t)) m).getD 0
/-- What the first parts' fares cost, and how many rides they give. -/
def cSum (z b c d : Nat → Int) (m : Nat) (P : Nat → Nat) : Nat → Int
  | 0 => 0
  | t + 1 => cSum z b c d m P t + b (jt z b c d m P t)
def rSum (z b c d : Nat → Int) (m : Nat) (P : Nat → Nat) : Nat → Int
  | 0 => 0
  | t + 1 => rSum z b c d m P t + c (jt z b c d m P t)
theorem Good.sums (h : Good z b c d m n L P) : ∀ t, (∀ s, s < t → stF P s < n) → cSum z b c d m P t = L 0 - L (stF P t) ∧ (stF P t : Nat) ≤ rSum z b c d m P t ∧ ∀ s, s < t → jt z b c d m P s < m := by
  intro t
  induction t with
  | zero => intro _; rw [stF_zero]; exact ⟨by simp [cSum], by simp [rSum], fun s hs => by omega⟩
  | succ t ih =>
    intro hs
    obtain ⟨i1, i2, i3⟩ := ih (fun s hs' => hs s (by omega))
    obtain ⟨p1, p2, j, hj, hp, hx, hr⟩ := h.part (hs t (by omega))
    have hjt : jt z b c d m P t = j := by unfold jt; rw [hp]; rfl
    rw [stF_succ]
    refine ⟨?_, ?_, fun s hs' => ?_⟩
    · show cSum z b c d m P t + b (jt z b c d m P t) = _
      rw [hjt]; omega
    · show _ ≤ rSum z b c d m P t + c (jt z b c d m P t)
      rw [hjt]; omega
    · by_cases e : s = t
      · rw [e, hjt]; exact hj
      · exact i3 s (by omega)
/-- All parts together. -/
theorem Good.all (h : Good z b c d m n L P) : cSum z b c d m P (endF P n) = L 0 ∧ (n : Int) ≤ rSum z b c d m P (endF P n) ∧ endF P n ≤ n ∧ (endF P n = 0 ↔ n = 0) ∧ ∀ s, s < endF P n → jt z b c d m P s < m := by
  obtain ⟨e1, e2, e3⟩ := h.ends
  obtain ⟨s1, s2, s3⟩ := h.sums _ e3
  rw [e2] at s1 s2
  rw [h.last] at s1
  refine ⟨by omega, s2, e1, ⟨fun h0 => ?_, fun h0 => by omega⟩, s3⟩
  rw [h0, stF_zero] at e2
  exact e2.symm
theorem idF_get (a : Nat → ByteArray) : ∀ t i, i < t → (idF a (fun i k => pkF z b c d i k m) P t).getD i ⟨#[]⟩ = a (jt z b c d m P i) := by
  intro t
  induction t with
  | zero => intro i hi; omega
  | succ t ih =>
    intro i hi
    rw [idF_succ]
    by_cases e : i = t
    · subst e
      have hl := idF_len a (fun i k => pkF z b c d i k m) P i
      rw [List.getD_eq_getElem?_getD, List.getElem?_append_right (by omega), hl]
      simp [jt]
    · have hl := idF_len a (fun i k => pkF z b c d i k m) P t
      rw [List.getD_eq_getElem?_getD, List.getElem?_append_left (by omega), ← List.getD_eq_getElem?_getD]
      exact ih i (by omega)
/-- No single fare for each trip costs less. -/
theorem Good.single (h : Good z b c d m n L P) (hB : FB m b c d) {k : Nat} (hk : k < m) : ∀ e, e ≤ n → L (n - e) ≤ e * b k := by
  intro e
  induction e with
  | zero => intro _; rw [Nat.sub_zero, h.last]; simp
  | succ e ih =>
    intro he
    have hb := h.best (n - (e + 1)) (by omega)
    obtain ⟨j, hj⟩ := pk_one (z := z) hB (show 0 < m by omega) (n - (e + 1))
    have h1 := hb.least (n - (e + 1) + 1) (b j + L (n - (e + 1) + 1)) (by omega) (by omega) (by unfold partV; rw [hj]; rfl)
    have h2 := (pkF_min hj).2 k hk (fit_one hB hk)
    have h3 := ih (by omega)
    rw [show n - (e + 1) + 1 = n - e by omega] at h1
    have h4 : (((e + 1 : Nat) : Int)) * b k = e * b k + b k := by rw [show ((e + 1 : Nat) : Int) = (e : Int) + 1 by omega, Int.add_mul]; omega
    rw [h4]
    omega
theorem Good.single' (h : Good z b c d m n L P) (hB : FB m b c d) {k : Nat} (hk : k < m) : L 0 ≤ n * b k := by
  have := h.single hB hk n (Nat.le_refl _)
  rwa [Nat.sub_self] at this
end

/-! One trip less. -/
theorem fit_shift (z r d : Nat → Int) (i k j : Nat) (hk : i < k) : fitF (fun i => z (i + 1)) r d i k j = fitF z r d (i + 1) (k + 1) j := by
  unfold fitF
  have e1 : ((k + 1 : Nat) : Int) - ((i + 1 : Nat) : Int) = (k : Int) - i := by omega
  have e2 : k - 1 + 1 = k + 1 - 1 := by omega
  simp only [e1, e2]
theorem pk_shift (z c r d : Nat → Int) (i k : Nat) (hk : i < k) : ∀ m, pkF (fun i => z (i + 1)) c r d i k m = pkF z c r d (i + 1) (k + 1) m := by
  intro m
  induction m with
  | zero => unfold pkF; rfl
  | succ m ih =>
    have e := fit_shift z r d i k m hk
    cases hf : fitF z r d (i + 1) (k + 1) m
    · rw [pkF_not hf, pkF_not (by rw [e]; exact hf), ih]
    · have hf' : fitF (fun i => z (i + 1)) r d i k m = true := by rw [e]; exact hf
      cases hp : pkF z c r d (i + 1) (k + 1) m with
      | none => rw [pkF_none hp hf, pkF_none (by rw [ih]; exact hp) hf']
      | some j =>
        by_cases hc : c m < c j
        · rw [pkF_less hp hf hc, pkF_less (by rw [ih]; exact hp) hf' hc]
        · rw [pkF_more hp hf (by omega), pkF_more (by rw [ih]; exact hp) hf' (by omega)]
theorem Good.shift {z b c d : Nat → Int} {m n : Nat} {L L' : Nat → Int} {P P' : Nat → Nat} (h : Good z b c d m (n + 1) L P) (h' : Good (fun i => z (i + 1)) b c d m n L' P') : ∀ e, e ≤ n → ∀ i, n - e ≤ i → i ≤ n → L' i = L (i + 1) := by
  intro e
  induction e with
  | zero => intro _ i h1 h2; obtain rfl : i = n := by omega
            rw [h'.last, h.last]
  | succ e ih =>
    intro he i h1 h2
    by_cases e0 : n - e ≤ i
    · exact ih (by omega) i e0 h2
    · have hi : i < n := by omega
      have b1 := h'.best i hi
      have b2 := h.best (i + 1) (by omega)
      have key : ∀ k, i < k → k ≤ n → partV (fun i => z (i + 1)) b c d m L' i k = partV z b c d m L (i + 1) (k + 1) := fun k k1 k2 => by
        unfold partV
        rw [pk_shift z b c d i k k1 m, ih (by omega) k (by omega) k2]
      have lo1 := b1.lo
      have hi1 := b1.hi
      have lo2 := b2.lo
      have hi2 := b2.hi
      have a1 := b1.at_
      rw [key _ lo1 hi1] at a1
      have le2 := b2.least (P' i + 1) _ (by omega) (by omega) a1
      have a2 := b2.at_
      have e3 : P (i + 1) = P (i + 1) - 1 + 1 := by omega
      rw [e3, ← key (P (i + 1) - 1) (by omega) (by omega)] at a2
      have le1 := b1.least (P (i + 1) - 1) _ (by omega) (by omega) a2
      omega
/-- With one trip less it costs no more. -/
theorem Good.less {z b c d : Nat → Int} {m n : Nat} {L L' : Nat → Int} {P P' : Nat → Nat} (h : Good z b c d m (n + 1) L P) (h' : Good (fun i => z (i + 1)) b c d m n L' P') (hB : FB m b c d) (hz : ∀ i, i < n → z i ≤ z (i + 1)) : L' 0 ≤ L 0 := by
  have e := h.shift h' n (Nat.le_refl _) 0 (by omega) (by omega)
  rw [e]
  obtain ⟨p1, p2, j, hj, hp, hx, hr⟩ := h.part (i := 0) (by omega)
  have hbj := hB j hj
  by_cases h1 : P 0 = 1
  · rw [h1] at hx
    rw [show (0 : Nat) + 1 = 1 from rfl]
    omega
  · have hn : 0 < n := by omega
    have hb := h.best 1 (by omega)
    have hf := fit_out (pkF_min hp).1
    have hf1 : fitF z c d 1 (P 0) j = true := fit_in (by omega) (by have := hz 0 hn; rw [show (0 : Nat) + 1 = 1 from rfl] at this; omega)
    obtain ⟨j', hj'⟩ := pkF_some (c := b) hj hf1
    have hm := (pkF_min hj').2 j hj hf1
    have hl := hb.least (P 0) (b j' + L (P 0)) (by omega) p2 (by unfold partV; rw [hj']; rfl)
    rw [show (0 : Nat) + 1 = 1 from rfl]
    omega

end Go.Proofs.YtjmklkhdemolmaaGreatDoor
