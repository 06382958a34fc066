/- The cheapest fares: bounds, the chain of parts, the answer. No program. -/
import Derived.Test.YtjmklkhdemolmaaGreatDoorCheapS
namespace Go.Proofs.YtjmklkhdemolmaaGreatDoor
open Go.RowKit Go.Deep
set_option linter.unusedVariables false
set_option maxRecDepth 100000

/-- A list of texts as a slice's elements. -/
def tl (L : List ByteArray) : Nat → ByteArray := fun i => L.getD i ⟨#[]⟩
theorem tl_old (L : List ByteArray) (x : ByteArray) {i : Nat} (h : i < L.length) : tl L i = tl (L ++ [x]) i := by
  simp [tl, List.getElem?_append_left h]
theorem tl_new (L : List ByteArray) (x : ByteArray) : tl (L ++ [x]) L.length = x := by simp [tl]
theorem Out.snocT {w : World} {B : Nat} {e : TypeId} {v : Value} {L : List ByteArray} {x : ByteArray} (h : w.ownsRow B e 1 v (L.length + 1) (cellsN (sc (tl L)) (L.length * 1) ++ [.string x])) : Out w B e 1 v (L ++ [x]).length (sc (tl (L ++ [x]))) := by
  have e1 : cellsN (sc (tl L)) (L.length * 1) = cellsN (sc (tl (L ++ [x]))) (L.length * 1) := cellsN_congr (fun i hi => by simp only [sc]; rw [tl_old L x (by omega)])
  rw [e1] at h
  have := Out.snoc1 h (by simp only [sc]; rw [tl_new])
  simpa using this
attribute [irreducible] tl

/-- Trip i is a day, and not ahead of the one before it. -/
def tAt (z : Nat → Int) (i : Nat) : Bool := inB (z i) 0 36524 && (decide (i = 0) || decide (z (i - 1) ≤ z i))
def trOk (n : Nat) (z : Nat → Int) : Bool := allTo (tAt z) n && decide (n ≤ 40)
theorem tAt_cases (z : Nat → Int) (k : Nat) :
    (inB (z k) 0 36524 = false ∧ Hid (tAt z k = false)) ∨
    (inB (z k) 0 36524 = true ∧ k = 0 ∧ Hid (tAt z k = true)) ∨
    (inB (z k) 0 36524 = true ∧ 0 < k ∧ z (k - 1) ≤ z k ∧ Hid (tAt z k = true)) ∨
    (inB (z k) 0 36524 = true ∧ 0 < k ∧ z k < z (k - 1) ∧ Hid (tAt z k = false)) := by
  cases h1 : inB (z k) 0 36524
  · exact .inl ⟨rfl, by show tAt z k = false; unfold tAt; rw [h1]; rfl⟩
  · by_cases h0 : k = 0
    · exact .inr (.inl ⟨rfl, h0, by show tAt z k = true; unfold tAt; rw [h1, h0]; rfl⟩)
    · by_cases h : z (k - 1) ≤ z k
      · exact .inr (.inr (.inl ⟨rfl, by omega, h, by show tAt z k = true; unfold tAt; rw [h1]; simp [h]⟩))
      · exact .inr (.inr (.inr ⟨rfl, by omega, by omega, by show tAt z k = false; unfold tAt; rw [h1]; simp [h0]; omega⟩))
theorem trOk_no {n k : Nat} {z : Nat → Int} (hk : k < n) (h : tAt z k = false) : trOk n z = false := by unfold trOk; rw [allTo_no hk h]; rfl
theorem trOk_big {n : Nat} {z : Nat → Int} (h : 40 < n) : trOk n z = false := by unfold trOk; rw [show decide (n ≤ 40) = false by simp; omega]; simp
theorem trOk_yes {n : Nat} {z : Nat → Int} (h : ∀ i, i < n → tAt z i = true) : trOk n z = decide (n ≤ 40) := by unfold trOk; rw [allTo_yes h]; rfl
theorem trOk_out {n : Nat} {z : Nat → Int} (h : trOk n z = true) : n ≤ 40 ∧ (∀ i, i < n → tAt z i = true) ∧ ∀ i, i < n → 0 ≤ z i ∧ z i ≤ 36524 := by
  simp only [trOk, Bool.and_eq_true, decide_eq_true_eq] at h
  refine ⟨h.2, allTo_out h.1, fun i hi => ?_⟩
  have := allTo_out h.1 i hi
  simp only [tAt, Bool.and_eq_true] at this
  have := inB_out this.1
  omega
attribute [irreducible] trOk tAt

theorem fit_one {z b c d : Nat → Int} {m : Nat} (hB : FB m b c d) {i j : Nat} (hj : j < m) : fitF z c d i (i + 1) j = true := by
  have h := hB j hj
  exact fitF_c (q := 1) (by omega) (by omega) (by simp; omega)
theorem pk_one {z b c d : Nat → Int} {m : Nat} (hB : FB m b c d) (hm : 0 < m) (i : Nat) : ∃ j, pkF z b c d i (i + 1) m = some j := pkF_some (i := 0) hm (fit_one hB hm)
theorem partV_some {z b c d : Nat → Int} {m : Nat} {L : Nat → Int} {i k : Nat} {x : Int} (h : partV z b c d m L i k = some x) : ∃ j, j < m ∧ pkF z b c d i k m = some j ∧ x = b j + L k := by
  unfold partV at h
  cases hp : pkF z b c d i k m with
  | none => rw [hp] at h; cases h
  | some j => rw [hp] at h; exact ⟨j, pkF_lt hp, rfl, by simp at h; omega⟩
/-- The costs are bounded. -/
theorem Good.bd {z b c d : Nat → Int} {m n : Nat} {L : Nat → Int} {P : Nat → Nat} (h : Good z b c d m n L P) (hB : FB m b c d) (hm : 0 < m ∨ n = 0) : ∀ e, e ≤ n → 0 ≤ L (n - e) ∧ L (n - e) ≤ 100000 * e := by
  intro e
  induction e with
  | zero => intro _; rw [Nat.sub_zero, h.last]; omega
  | succ e ih =>
    intro he
    have hb := h.best (n - (e + 1)) (by omega)
    have h0 := ih (by omega)
    -- the first place is the next one's
    obtain ⟨j, hj⟩ := pk_one (z := z) hB (by omega) (n - (e + 1))
    have h1 := hb.least (n - (e + 1) + 1) (b j + L (n - (e + 1) + 1)) (by omega) (by omega) (by unfold partV; rw [hj]; rfl)
    have hjm := hB j (pkF_lt hj)
    rw [show n - (e + 1) + 1 = n - e by omega] at h1
    have hlo : 0 ≤ L (n - (e + 1)) := by
      have key : ∀ e', e' ≤ n → (∀ e'', e'' < e' → 0 ≤ L (n - e'')) → 0 ≤ L (n - e') := by
        intro e' he' hall
        by_cases e0 : e' = 0
        · subst e0; rw [Nat.sub_zero, h.last]; omega
        · have hb' := h.best (n - e') (by omega)
          obtain ⟨j', hj', -, hx⟩ := partV_some hb'.at_
          have := hB j' hj'
          have hlo := hb'.lo
          have hhi := hb'.hi
          have := hall (n - P (n - e')) (by omega)
          rw [show n - (n - P (n - e')) = P (n - e') by omega] at this
          omega
      have all : ∀ e', e' ≤ n → 0 ≤ L (n - e') := by
        intro e'
        induction e' using Nat.strongRecOn with
        | _ e' ih' => exact fun he' => key e' he' (fun e'' h'' => ih' e'' h'' (by omega))
      exact all (e + 1) he
    exact ⟨hlo, by omega⟩
theorem Good.bd' {z b c d : Nat → Int} {m n : Nat} {L : Nat → Int} {P : Nat → Nat} (h : Good z b c d m n L P) (hB : FB m b c d) (hm : 0 < m ∨ n = 0) (hn : n ≤ 40) : ∀ j, j ≤ n → 0 ≤ L j ∧ L j ≤ 4000000 := fun j hj => by
  have := h.bd hB hm (n - j) (by omega)
  rw [show n - (n - j) = j by omega] at this
  omega

/-- Where the parts begin, and their fares' names. -/
def stF (P : Nat → Nat) : Nat → Nat
  | 0 => 0
  | t + 1 => P (stF P t)
def idF (a : Nat → ByteArray) (pk : Nat → Nat → Option Nat) (P : Nat → Nat) : Nat → List ByteArray
  | 0 => []
  | t + 1 => idF a pk P t ++ [a ((pk (stF P t) (P (stF P t))).getD 0)]
theorem idF_len (a : Nat → ByteArray) (pk : Nat → Nat → Option Nat) (P : Nat → Nat) (t : Nat) : (idF a pk P t).length = t := by
  induction t with
  | zero => rfl
  | succ t ih => simp [idF, ih]
def endF (P : Nat → Nat) (n : Nat) : Nat := firstTo (fun t => decide (n ≤ stF P t)) (n + 1)
theorem endF_eq {P : Nat → Nat} {n t : Nat} (ht : t ≤ n) (h1 : ∀ s, s < t → stF P s < n) (h2 : n ≤ stF P t) : endF P n = t := by
  unfold endF
  exact firstTo_eq (by omega) (fun s hs => by have := h1 s hs; simp; omega) (fun _ => by simpa using h2)
attribute [irreducible] stF idF endF
theorem stF_zero (P : Nat → Nat) : stF P 0 = 0 := by unfold stF; rfl
theorem stF_succ (P : Nat → Nat) (t : Nat) : stF P (t + 1) = P (stF P t) := by conv => lhs; unfold stF
theorem idF_zero (a : Nat → ByteArray) (pk : Nat → Nat → Option Nat) (P : Nat → Nat) : idF a pk P 0 = [] := by unfold idF; rfl
theorem idF_succ (a : Nat → ByteArray) (pk : Nat → Nat → Option Nat) (P : Nat → Nat) (t : Nat) : idF a pk P (t + 1) = idF a pk P t ++ [a ((pk (stF P t) (P (stF P t))).getD 0)] := by conv => lhs; unfold idF

end Go.Proofs.YtjmklkhdemolmaaGreatDoor
