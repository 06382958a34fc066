/- The calendar: plain Lean, no program in sight. -/
import Derived.Test.YtjoomijbbiageaaDoorBase
namespace Go.Proofs.YtjoomijbbiageaaDoor
set_option linter.unusedVariables false

/-- The days of a month. -/
def mLen (y m : Int) : Int := if m = 2 then (if y % 4 = 0 then 29 else 28) else if m = 4 ∨ m = 6 ∨ m = 9 ∨ m = 11 then 30 else 31
/-- The days of a year's first months. -/
def cumM (y : Int) : Nat → Int
  | 0 => 0
  | k + 1 => cumM y k + mLen y ((k : Int) + 1)
/-- The day of a month's first date. -/
def dayD (y m : Int) : Int := (y - 2000) * 365 + (y - 1997) / 4 + cumM y (m - 1).toNat
/-- The day d lies in the month m of the year y. -/
def IsDate (d y m : Int) : Prop := 2000 ≤ y ∧ y ≤ 2099 ∧ 1 ≤ m ∧ m ≤ 12 ∧ dayD y m ≤ d ∧ d < dayD y m + mLen y m

theorem mLen_bd (y m : Int) : 28 ≤ mLen y m ∧ mLen y m ≤ 31 := by unfold mLen; split <;> (try split) <;> omega
theorem cumM_mono (y : Int) : ∀ {a b : Nat}, a < b → cumM y a + mLen y ((a : Int) + 1) ≤ cumM y b
  | a, 0, h => by omega
  | a, b + 1, h => by
    by_cases e : a = b
    · subst e; exact Int.le_refl _
    · have := cumM_mono y (a := a) (b := b) (by omega)
      have := mLen_bd y ((b : Int) + 1)
      show _ ≤ cumM y b + mLen y ((b : Int) + 1)
      omega
theorem cumM_le (y : Int) {a b : Nat} (h : a ≤ b) : cumM y a ≤ cumM y b := by
  by_cases e : a = b
  · subst e; exact Int.le_refl _
  · have := cumM_mono y (a := a) (b := b) (by omega)
    have := mLen_bd y ((a : Int) + 1)
    omega
theorem cumM_bd (y : Int) : ∀ k : Nat, 0 ≤ cumM y k ∧ cumM y k ≤ 31 * k
  | 0 => by simp [cumM]
  | k + 1 => by
    have := cumM_bd y k
    have := mLen_bd y ((k : Int) + 1)
    have e : cumM y (k + 1) = cumM y k + mLen y ((k : Int) + 1) := rfl
    omega
theorem cumM_year (y : Int) : cumM y 12 = 365 + (if y % 4 = 0 then 1 else 0) := by
  by_cases h : y % 4 = 0 <;> simp [cumM, mLen, h]
theorem dayD_first (y : Int) : dayD y 1 = (y - 2000) * 365 + (y - 1997) / 4 := by simp [dayD, cumM]
theorem dayD_next (y : Int) {m : Int} (h : 1 ≤ m) : dayD y (m + 1) = dayD y m + mLen y m := by
  obtain ⟨k, rfl⟩ : ∃ k : Nat, m = (k : Int) + 1 := ⟨(m - 1).toNat, by omega⟩
  unfold dayD
  rw [show ((k : Int) + 1 + 1 - 1).toNat = k + 1 by omega, show ((k : Int) + 1 - 1).toNat = k by omega]
  show _ + (cumM y k + _) = _
  omega
theorem dayD_13 (y : Int) : dayD y 13 = dayD (y + 1) 1 := by
  rw [dayD_first]
  unfold dayD
  rw [show ((13 : Int) - 1).toNat = 12 from rfl, cumM_year]
  split <;> omega
theorem dayD_year (y : Int) : dayD (y + 1) 1 = dayD y 12 + mLen y 12 := by
  have := dayD_next y (m := 12) (by omega)
  rw [show (12 : Int) + 1 = 13 from rfl] at this
  rw [← dayD_13]; exact this
theorem dayD_lt (y : Int) {a b : Int} (ha : 1 ≤ a) (h : a < b) : dayD y a + mLen y a ≤ dayD y b := by
  obtain ⟨i, rfl⟩ : ∃ k : Nat, a = (k : Int) + 1 := ⟨(a - 1).toNat, by omega⟩
  obtain ⟨j, rfl⟩ : ∃ k : Nat, b = (k : Int) + 1 := ⟨(b - 1).toNat, by omega⟩
  have := cumM_mono y (a := i) (b := j) (by omega)
  unfold dayD
  rw [show ((i : Int) + 1 - 1).toNat = i by omega, show ((j : Int) + 1 - 1).toNat = j by omega]
  omega
theorem dayD_le (y : Int) {a b : Int} (ha : 1 ≤ a) (h : a ≤ b) : dayD y a ≤ dayD y b := by
  by_cases e : a = b
  · subst e; exact Int.le_refl _
  · have := dayD_lt y ha (show a < b by omega)
    have := mLen_bd y a
    omega
theorem dayD_ge (y : Int) {m : Int} (h : 1 ≤ m) : dayD y 1 ≤ dayD y m := dayD_le y (by omega) h
theorem dayD_yle {a b : Int} (h : a ≤ b) : dayD a 1 ≤ dayD b 1 := by rw [dayD_first, dayD_first]; omega
theorem dayD_ylt (y : Int) {m : Int} (h : 1 ≤ m) (h2 : m ≤ 12) : dayD y m + mLen y m ≤ dayD (y + 1) 1 := by
  rw [← dayD_13]; exact dayD_lt y h (by omega)
/-- A day's year is below 2100. -/
theorem dayD_y {d y m : Int} (h0 : d ≤ 36524) (hm : 1 ≤ m) (h : dayD y m ≤ d) : y ≤ 2099 := by
  have h1 := dayD_ge y hm
  rw [dayD_first] at h1
  omega
theorem IsDate.year {d y m : Int} (h : IsDate d y m) : dayD y 1 ≤ d ∧ d < dayD (y + 1) 1 := by
  obtain ⟨_, _, h1, h2, h3, h4⟩ := h
  have := dayD_ge y h1
  have := dayD_ylt y h1 h2
  omega
theorem IsDate.uniq {d y m y' m' : Int} (h : IsDate d y m) (h' : IsDate d y' m') : y = y' ∧ m = m' := by
  have a := h.year
  have b := h'.year
  have e : y = y' := by
    rcases Int.lt_trichotomy y y' with h1 | h1 | h1
    · have := dayD_yle (show y + 1 ≤ y' by omega); omega
    · exact h1
    · have := dayD_yle (show y' + 1 ≤ y by omega); omega
  subst e
  refine ⟨rfl, ?_⟩
  obtain ⟨_, _, h1, h2, h3, h4⟩ := h
  obtain ⟨_, _, k1, k2, k3, k4⟩ := h'
  rcases Int.lt_trichotomy m m' with e | e | e
  · have := dayD_lt y h1 e; omega
  · exact e
  · have := dayD_lt y k1 e; omega
theorem date_exists (n : Nat) (hn : (n : Int) ≤ 36524) : ∃ y m, IsDate n y m := by
  induction n with
  | zero => exact ⟨2000, 1, by omega, by omega, by omega, by omega, by rw [dayD_first]; omega, by rw [dayD_first]; have := mLen_bd 2000 1; omega⟩
  | succ n ih =>
    obtain ⟨y, m, h0, h1, h2, h3, h4, h5⟩ := ih (by omega)
    by_cases e : ((n + 1 : Nat) : Int) < dayD y m + mLen y m
    · exact ⟨y, m, h0, h1, h2, h3, by omega, e⟩
    · by_cases e2 : m < 12
      · refine ⟨y, m + 1, h0, h1, by omega, by omega, ?_, ?_⟩
        · rw [dayD_next y h2]; omega
        · rw [dayD_next y h2]; have := mLen_bd y (m + 1); omega
      · obtain rfl : m = 12 := by omega
        have e3 := dayD_year y
        have e4 : dayD (y + 1) 1 ≤ ((n + 1 : Nat) : Int) := by omega
        refine ⟨y + 1, 1, by omega, dayD_y hn (by omega) e4, by omega, by omega, e4, ?_⟩
        have := mLen_bd (y + 1) 1; omega
theorem date_of {d : Int} (h : 0 ≤ d ∧ d ≤ 36524) : ∃ y m, IsDate d y m := by
  obtain ⟨n, rfl⟩ : ∃ n : Nat, d = (n : Int) := ⟨d.toNat, by omega⟩
  exact date_exists n h.2
/-- The program's two tests. -/
theorem year_test {d y m a : Int} (h : IsDate d y m) (h1 : a ≤ y) : (a < 2099 ∧ dayD (a + 1) 1 ≤ d) ↔ a < y := by
  have k := h.year
  obtain ⟨_, h2, _⟩ := h
  refine ⟨fun ⟨_, e⟩ => ?_, fun e => ⟨by omega, ?_⟩⟩
  · by_cases g : a = y
    · subst g; omega
    · omega
  · have := dayD_yle (show a + 1 ≤ y by omega); omega
theorem month_test {d y m a : Int} (h : IsDate d y m) (h0 : 1 ≤ a) (h1 : a ≤ m) : (a < 12 ∧ dayD y (a + 1) ≤ d) ↔ a < m := by
  obtain ⟨_, _, h2, h3, h4, h5⟩ := h
  refine ⟨fun ⟨_, e⟩ => ?_, fun e => ⟨by omega, ?_⟩⟩
  · by_cases g : a = m
    · subst g; rw [dayD_next y h0] at e; omega
    · omega
  · have := dayD_le y (show 1 ≤ a + 1 by omega) (show a + 1 ≤ m by omega); omega

end Go.Proofs.YtjoomijbbiageaaDoor
