/- The queues at the ends of all minutes. -/
import Derived.Test.YtmgbbfbalmlpiaaGreatDoorQueue
import Derived.Test.YtmgbbfbalmlpiaaGreatDoorQLaws
namespace Go.Proofs.YtmgbbfbalmlpiaaGreatDoor
open Go.RowKit Go.Deep
set_option linter.unusedVariables false

/-- A ride with s seats takes people away, if c. -/
def dn (c : Bool) (a s : Int) : Int := if c then max 0 (a - s) else a
theorem dn_bd {c : Bool} {a s b : Int} (h : 0 ≤ a ∧ a ≤ b) (hs : 1 ≤ s) : 0 ≤ dn c a s ∧ dn c a s ≤ b := by unfold dn; split <;> omega
/-- The queue behind i minutes. -/
def qu (z : Nat → Int) (ev se ex : Int) : Nat → Int
  | 0 => 0
  | i + 1 => dn (decide ((i : Int) + 1 = ex)) (dn (decide (((i : Int) + 1) % ev = 0)) (qu z ev se ex i + z i) se) se
theorem qu_zero (z : Nat → Int) (ev se ex : Int) : qu z ev se ex 0 = 0 := rfl
theorem qu_succ (z : Nat → Int) (ev se ex : Int) (i : Nat) : qu z ev se ex (i + 1) = dn (decide ((i : Int) + 1 = ex)) (dn (decide (((i : Int) + 1) % ev = 0)) (qu z ev se ex i + z i) se) se := rfl
theorem qu_bd {z : Nat → Int} {n : Nat} {ev se ex : Int} (hz : ∀ i, i < n → 0 ≤ z i ∧ z i ≤ 1000) (hs : 1 ≤ se) : ∀ i, i ≤ n → 0 ≤ qu z ev se ex i ∧ qu z ev se ex i ≤ 1000 * i := by
  intro i
  induction i with
  | zero => intro _; simp [qu]
  | succ i ih =>
    intro h
    have h1 := ih (by omega)
    have h2 := hz i (by omega)
    rw [qu_succ]
    exact dn_bd (dn_bd (by omega) hs) hs
theorem vArr_out {n : Nat} {z : Nat → Int} (h : vArr n z = true) : 1 ≤ n ∧ n ≤ 60 ∧ ∀ i, i < n → 0 ≤ z i ∧ z i ≤ 1000 := by
  simp only [vArr, Bool.and_eq_true, decide_eq_true_eq] at h
  exact ⟨h.1.1, h.1.2, fun i hi => inB_out (allTo_out h.2 i hi)⟩
theorem dn_yes (a s : Int) : dn true a s = a - (if s < a then s else a) := by unfold dn; rw [if_pos rfl]; split <;> omega
theorem dn_max (a s : Int) : dn true a s = max 0 (a - s) := by unfold dn; rw [if_pos rfl]
theorem dn_no (a s : Int) : dn false a s = a := by unfold dn; simp
theorem ask_cases (v f : Bool) : (∃ c : Int, askCode v f = c ∧ (c = 1 ∨ c = 2) ∧ (v && f) = false) ∨ (v = true ∧ f = true ∧ askCode v f = 0) := by
  cases v <;> cases f <;> simp [askCode]
theorem and2_cases (a b : Bool) : (a = false ∧ Hid ((a && b) = false)) ∨ (a = true ∧ b = false ∧ Hid ((a && b) = false)) ∨ (a = true ∧ b = true ∧ Hid ((a && b) = true)) := by
  cases a
  · exact .inl ⟨rfl, rfl⟩
  · cases b
    · exact .inr (.inl ⟨rfl, rfl, rfl⟩)
    · exact .inr (.inr ⟨rfl, rfl, rfl⟩)
theorem and3_cases (a b c : Bool) : (a = false ∧ Hid ((a && b && c) = false)) ∨ (a = true ∧ b = false ∧ Hid ((a && b && c) = false)) ∨ (a = true ∧ b = true ∧ c = false ∧ Hid ((a && b && c) = false)) ∨ (a = true ∧ b = true ∧ c = true ∧ Hid ((a && b && c) = true)) := by
  cases a
  · exact .inl ⟨rfl, rfl⟩
  · cases b
    · exact .inr (.inl ⟨rfl, rfl, rfl⟩)
    · cases c
      · exact .inr (.inr (.inl ⟨rfl, rfl, rfl, rfl⟩))
      · exact .inr (.inr (.inr ⟨rfl, rfl, rfl, rfl⟩))
theorem qu_ways (z : Nat → Int) (ev se ex : Int) (i : Nat) (b1 b2 : Bool) (h1 : (((i : Int) + 1) % ev == 0) = b1) (h2 : ((i : Int) + 1 == ex) = b2) : qu z ev se ex (i + 1) = dn b2 (dn b1 (qu z ev se ex i + z i) se) se := by
  rw [qu_succ, ← h1, ← h2]; rfl
attribute [irreducible] qu
def QuPost (n : Nat) (z : Nat → Int) (ev se ex : Int) (W : World) (e : Ending) (W' : World) : Prop := ∃ g, e = .returned g ∧ Below W.heap.size W W' ∧ Out W' W.heap.size 2 1 g n (ic (fun i => qu z ev se ex (i + 1)))

def quN (n : Nat) (z : Nat → Int) (b : Bool) : Nat := if askCode (vArr n z) b = 0 then n else 0
theorem quN_no {n : Nat} {z : Nat → Int} {b : Bool} {c : Int} (h : askCode (vArr n z) b = c) (hc : c = 1 ∨ c = 2) : quN n z b = 0 := by unfold quN; rw [if_neg (by omega)]
theorem quN_yes {n : Nat} {z : Nat → Int} {b : Bool} (h : askCode (vArr n z) b = 0) : quN n z b = n := by unfold quN; rw [if_pos h]
theorem quN_le (n : Nat) (z : Nat → Int) (b : Bool) (hn : n ≤ 17592186044416) : quN n z b ≤ 17592186044416 := by unfold quN; split <;> omega
attribute [irreducible] quN
def QueuesPost (n : Nat) (z : Nat → Int) (ev se : Int) (W : World) (e : Ending) (W' : World) : Prop :=
  ∃ g, e = .returned (.tuple #[g, .int .i64 (askCode (vArr n z) (inB ev 1 60 && inB se 1 1000))]) ∧ Below W.heap.size W W' ∧ Out W' W.heap.size 2 1 g (quN n z (inB ev 1 60 && inB se 1 1000)) (ic (fun i => qu z ev se 0 (i + 1)))

end Go.Proofs.YtmgbbfbalmlpiaaGreatDoor
