/- Rides that leave later because one of them does. -/
import Derived.Test.YteieiceknnnphaaDoorSlack
import Derived.Test.YteieiceknnnphaaDoorRLaws
namespace Go.Proofs.YteieiceknnnphaaDoor
open Go.RowKit Go.Deep
set_option maxRecDepth 100000
set_option linter.unusedVariables false

/-- When ride i leaves, ride k leaving d later. -/
def late (lv tk : Nat → Int) (k : Nat) (d t : Int) : Nat → Int
  | 0 => if 0 = k then lv 0 + d else lv 0
  | i + 1 => if i + 1 = k then lv (i + 1) + d else if k ≤ i then max (lv (i + 1)) (late lv tk k d t i + tk i + t) else lv (i + 1)
theorem late_lt {lv tk : Nat → Int} {k : Nat} {d t : Int} {i : Nat} (h : i < k) : late lv tk k d t i = lv i := by
  cases i with
  | zero => simp only [late]; rw [if_neg (by omega)]
  | succ i => simp only [late]; rw [if_neg (by omega), if_neg (by omega)]
theorem late_eq {lv tk : Nat → Int} {k : Nat} {d t : Int} : late lv tk k d t k = lv k + d := by
  cases k with
  | zero => simp [late]
  | succ k => simp [late]
theorem late_gt {lv tk : Nat → Int} {k : Nat} {d t : Int} {i : Nat} (h : k < i) : late lv tk k d t i = max (lv i) (late lv tk k d t (i - 1) + tk (i - 1) + t) := by
  cases i with
  | zero => omega
  | succ i => simp only [late]; rw [if_neg (by omega), if_pos (by omega)]; rfl
theorem late_bd {lv tk : Nat → Int} {k : Nat} {d t : Int} {n : Nat} (hb : ∀ i, i < n → 0 ≤ lv i ∧ lv i ≤ 1440 ∧ 1 ≤ tk i ∧ tk i ≤ 1440) (hd : 0 ≤ d ∧ d ≤ 1440) (ht : 0 ≤ t ∧ t ≤ 1440) : ∀ i, i < n → 0 ≤ late lv tk k d t i ∧ late lv tk k d t i ≤ 2880 * (i + 1) := by
  intro i
  induction i with
  | zero =>
    intro h
    have := hb 0 h
    simp only [late]
    split <;> omega
  | succ i ih =>
    intro h
    have h1 := hb (i + 1) h
    have h2 := hb i (by omega)
    have h3 := ih (by omega)
    simp only [late]
    split
    · omega
    · split <;> omega
def lateSum (lv tk : Nat → Int) (k : Nat) (d t : Int) : Nat → Int
  | 0 => 0
  | i + 1 => lateSum lv tk k d t i + (late lv tk k d t i - lv i)
theorem lateSum_bd {lv tk : Nat → Int} {k : Nat} {d t : Int} {n : Nat} (hb : ∀ i, i < n → 0 ≤ lv i ∧ lv i ≤ 1440 ∧ 1 ≤ tk i ∧ tk i ≤ 1440) (hd : 0 ≤ d ∧ d ≤ 1440) (ht : 0 ≤ t ∧ t ≤ 1440) (h24 : n ≤ 24) : ∀ i, i ≤ n → -100000 * (i : Int) ≤ lateSum lv tk k d t i ∧ lateSum lv tk k d t i ≤ 100000 * i := by
  intro i
  induction i with
  | zero => intro _; simp [lateSum]
  | succ i ih =>
    intro h
    have h1 := hb i (by omega)
    have h2 := late_bd (k := k) hb hd ht i (by omega)
    have h3 := ih (by omega)
    simp only [lateSum]
    omega
theorem lateSum_zero (lv tk : Nat → Int) (k : Nat) (d t : Int) : lateSum lv tk k d t 0 = 0 := rfl
theorem lateSum_succ (lv tk : Nat → Int) (k : Nat) (d t : Int) (i : Nat) : lateSum lv tk k d t (i + 1) = lateSum lv tk k d t i + (late lv tk k d t i - lv i) := rfl
attribute [irreducible] late lateSum
def delayOk (n : Nat) (k d t : Int) : Bool := inB k 0 ((n : Int) - 1) && inB d 0 1440 && inB t 0 1440
theorem delayOk_cases (n : Nat) (k d t : Int) : (inB k 0 ((n : Int) - 1) = false ∧ Hid (delayOk n k d t = false)) ∨ (inB k 0 ((n : Int) - 1) = true ∧ inB d 0 1440 = false ∧ Hid (delayOk n k d t = false)) ∨
    (inB k 0 ((n : Int) - 1) = true ∧ inB d 0 1440 = true ∧ Hid (delayOk n k d t = inB t 0 1440)) := by
  have key : delayOk n k d t = (inB k 0 ((n : Int) - 1) && inB d 0 1440 && inB t 0 1440) := rfl
  cases h1 : inB k 0 ((n : Int) - 1)
  · exact .inl ⟨rfl, by rw [h1] at key; exact key⟩
  · cases h2 : inB d 0 1440
    · exact .inr (.inl ⟨rfl, rfl, by rw [h1, h2] at key; exact key⟩)
    · exact .inr (.inr ⟨rfl, rfl, by rw [h1, h2] at key; show delayOk n k d t = _; simpa using key⟩)
theorem delayOk_out {n : Nat} {k d t : Int} (h : delayOk n k d t = true) : ∃ k' : Nat, k = k' ∧ k' < n ∧ (0 ≤ d ∧ d ≤ 1440) ∧ (0 ≤ t ∧ t ≤ 1440) := by
  simp only [delayOk, Bool.and_eq_true, inB_iff] at h
  exact ⟨k.toNat, by omega, by omega, by omega, by omega⟩
attribute [irreducible] delayOk

theorem i_size_ride (ao : Option Addr) (n cap : Nat) (W : World) (h : (n : Int) ≤ 17592186044416) : Calls Tryd.prog 37 #[.slice ao n cap] W fun e W' => e = .returned (.int .i64 n) ∧ W = W' := by
  go_enter Tryd.func37, Tryd.ntmps37
  go_wp2
  go_ret
  exact ⟨rfl, rfl⟩

theorem i_delayable (v : Value) (n : Nat) (lv tk : Nat → Int) (k d t : Int) (W : World) (hs : Sl W v 2 n (rc lv tk)) : Calls Tryd.prog 30 #[v, .int .i64 k, .int .i64 d, .int .i64 t] W fun e W' => e = .returned (.int .i64 (tAsk n lv tk (delayOk n k d t))) ∧ Below W.heap.size W W' := by
  have HA := Lib.hid (fun w b => i_timetabled v n lv tk b w)
  have HS := hs
  obtain ⟨hn, ao, cap, rfl, hr⟩ := hs
  clear hr
  have hn' : (n : Int) ≤ 17592186044416 := by omega
  rcases delayOk_cases n k d t with ⟨h1, HV⟩ | ⟨h1, h2, HV⟩ | ⟨h1, h2, HV⟩
  all_goals
    go_enter Tryd.func30, Tryd.ntmps30
    go_wp2_with (first | (go_at_call 37; refine (i_size_ride _ _ _ _ ?_).mono ?_; (omega); rintro e w' ⟨rfl, rfl⟩) | (go_at_call 27; refine (i_within _ _ _ _).mono ?_; rintro e w' ⟨rfl, rfl⟩) | (go_at_call 20; refine (i_isDayMinute _ _).mono ?_; rintro e w' ⟨rfl, rfl⟩) | (go_at_call 19; refine (HA.out _ _ HS).mono ?_; rintro e w1 ⟨rfl, hb1⟩))
    go_ret
    exact ⟨by rw [HV.out]; rfl, hb1⟩

theorem delayAsk_cases (n : Nat) (lv tk : Nat → Int) (k d t : Int) : (vTable n lv tk = false ∧ Hid (tAsk n lv tk (delayOk n k d t) = 1)) ∨
    (vTable n lv tk = true ∧ inB k 0 ((n : Int) - 1) = false ∧ Hid (tAsk n lv tk (delayOk n k d t) = 2)) ∨
    (vTable n lv tk = true ∧ inB k 0 ((n : Int) - 1) = true ∧ inB d 0 1440 = false ∧ Hid (tAsk n lv tk (delayOk n k d t) = 2)) ∨
    (vTable n lv tk = true ∧ inB k 0 ((n : Int) - 1) = true ∧ inB d 0 1440 = true ∧ inB t 0 1440 = false ∧ Hid (tAsk n lv tk (delayOk n k d t) = 2)) ∨
    (vTable n lv tk = true ∧ inB k 0 ((n : Int) - 1) = true ∧ inB d 0 1440 = true ∧ inB t 0 1440 = true ∧ Hid (tAsk n lv tk (delayOk n k d t) = 0)) := by
  rcases tAsk_cases n lv tk (delayOk n k d t) with ⟨hv, hf⟩ | ⟨hv, hi, hf⟩ | ⟨hv, hi, hf⟩
  · exact .inl ⟨hv, hf⟩
  · rcases delayOk_cases n k d t with ⟨h1, HV⟩ | ⟨h1, h2, HV⟩ | ⟨h1, h2, HV⟩
    · exact .inr (.inl ⟨hv, h1, hf⟩)
    · exact .inr (.inr (.inl ⟨hv, h1, h2, hf⟩))
    · exact .inr (.inr (.inr (.inl ⟨hv, h1, h2, HV.out.symm.trans hi, hf⟩)))
  · rcases delayOk_cases n k d t with ⟨h1, HV⟩ | ⟨h1, h2, HV⟩ | ⟨h1, h2, HV⟩
    · exact absurd (HV.out.symm.trans hi) (by decide)
    · exact absurd (HV.out.symm.trans hi) (by decide)
    · exact .inr (.inr (.inr (.inr ⟨hv, h1, h2, HV.out.symm.trans hi, hf⟩)))

end Go.Proofs.YteieiceknnnphaaDoor
