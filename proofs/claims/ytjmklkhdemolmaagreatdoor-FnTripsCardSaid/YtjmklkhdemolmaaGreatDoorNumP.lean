/- Decimal numerals: what a text says, and that its number's text is that text again. Plain Lean, no program in sight. -/
import Derived.WalkKit
import Derived.Lib.ItoaMem
import Derived.Lib.ParseIntB
namespace Go.Proofs.YtjmklkhdemolmaaGreatDoor
set_option linter.unusedVariables false
set_option linter.unusedSimpArgs false

def isD (c : UInt8) : Bool := decide (48 ≤ c.toNat) && decide (c.toNat ≤ 57)
theorem isD_iff {c : UInt8} : isD c = true ↔ 48 ≤ c.toNat ∧ c.toNat ≤ 57 := by simp [isD]
def vD (acc : Nat) : List UInt8 → Nat
  | [] => acc
  | c :: r => vD (10 * acc + (c.toNat - 48)) r
theorem vD_append (a b : List UInt8) : ∀ acc, vD acc (a ++ b) = vD (vD acc a) b := by
  induction a with
  | nil => intro acc; rfl
  | cons c r ih => intro acc; exact ih _
theorem vD_snoc (acc : Nat) (a : List UInt8) (c : UInt8) : vD acc (a ++ [c]) = 10 * vD acc a + (c.toNat - 48) := by rw [vD_append]; rfl
theorem vD_ge (r : List UInt8) : ∀ acc, acc ≤ vD acc r := by
  induction r with
  | nil => intro acc; exact Nat.le_refl _
  | cons c r ih => intro acc; have := ih (10 * acc + (c.toNat - 48)); show acc ≤ vD (10 * acc + (c.toNat - 48)) r; omega
theorem vD_lt (r : List UInt8) : ∀ acc, r.all isD = true → vD acc r + 1 ≤ (acc + 1) * 10 ^ r.length := by
  induction r with
  | nil => intro acc _; show acc + 1 ≤ (acc + 1) * 1; omega
  | cons c r ih =>
    intro acc h
    rw [List.all_cons, Bool.and_eq_true] at h
    have hb := isD_iff.1 h.1
    have h1 := ih (10 * acc + (c.toNat - 48)) h.2
    have h2 : (10 * acc + (c.toNat - 48) + 1) * 10 ^ r.length ≤ ((acc + 1) * 10) * 10 ^ r.length := Nat.mul_le_mul_right _ (by omega)
    have h3 : ((acc + 1) * 10) * 10 ^ r.length = (acc + 1) * 10 ^ (c :: r).length := by
      rw [List.length_cons, Nat.pow_succ, Nat.mul_comm (10 ^ r.length) 10, ← Nat.mul_assoc]
    exact Nat.le_trans h1 (Nat.le_trans h2 (Nat.le_of_eq h3))

theorem pum (d : List UInt8) : ∀ acc, (acc + 1) * 10 ^ d.length ≤ 1000000000000000000 → Go.Lib.parseUintM (2 ^ 64 - 1) acc d = if d.all isD then .ok (vD acc d) else .«syntax» := by
  induction d with
  | nil => intro acc _; rfl
  | cons c r ih =>
    intro acc h
    have hp : 0 < 10 ^ r.length := Nat.pow_pos (by omega)
    rw [List.length_cons, Nat.pow_succ, Nat.mul_comm (10 ^ r.length) 10, ← Nat.mul_assoc] at h
    have h1 : (acc + 1) * 10 ≤ 1000000000000000000 := Nat.le_trans (Nat.le_mul_of_pos_right _ hp) h
    unfold Go.Lib.parseUintM
    by_cases hc : 48 ≤ c.toNat ∧ c.toNat ≤ 57
    · rw [if_pos hc, if_neg (by omega), if_neg (by omega), ih (acc * 10 + (c.toNat - 48)) (Nat.le_trans (Nat.mul_le_mul_right _ (by omega)) h)]
      rw [List.all_cons, isD_iff.2 hc, Bool.true_and]
      show _ = if _ then Go.Lib.NumEnd.ok (vD (10 * acc + (c.toNat - 48)) r) else _
      rw [Nat.mul_comm acc 10]
    · rw [if_neg hc]
      have : isD c = false := by cases e : isD c with | false => rfl | true => exact absurd (isD_iff.1 e) hc
      rw [List.all_cons, this, Bool.false_and]
      rfl

/-- A numeral without a sign and without noughts ahead. -/
def good (d : List UInt8) : Prop := d ≠ [] ∧ d.all isD = true ∧ (d.length = 1 ∨ d.head? ≠ some 48)
theorem digit_of (k : Nat) (h : k < 10) : (UInt8.ofNat (48 + k)).toNat = 48 + k := by simp; omega
theorem of_digit {c : UInt8} (h : isD c = true) : UInt8.ofNat (48 + (c.toNat - 48)) = c := by
  have h1 := isD_iff.1 h
  rw [show 48 + (c.toNat - 48) = c.toNat by omega]
  exact UInt8.ofNat_toNat
theorem dec_good (n : Nat) : good (Go.Lib.decDigits n) ∧ vD 0 (Go.Lib.decDigits n) = n ∧ (1 ≤ n → (Go.Lib.decDigits n).head? ≠ some 48) := by
  induction n using Nat.strongRecOn with
  | _ n ih =>
    by_cases h : n < 10
    · rw [Go.Lib.decDigits_one h]
      have e := digit_of n h
      refine ⟨⟨by simp, by simp [isD_iff, e]; omega, .inl rfl⟩, ?_, fun h1 he => ?_⟩
      · show 10 * 0 + ((UInt8.ofNat (48 + n)).toNat - 48) = n
        rw [e]; omega
      · simp only [List.head?_cons, Option.some.injEq] at he
        rw [he] at e
        have : (48 : UInt8).toNat = 48 := rfl
        omega
    · rw [Go.Lib.decDigits, dif_neg h]
      obtain ⟨⟨h1, h2, h3⟩, h4, h5⟩ := ih (n / 10) (by omega)
      have e := digit_of (n % 10) (by omega)
      have hh := h5 (by omega)
      have hhd : (Go.Lib.decDigits (n / 10) ++ [UInt8.ofNat (48 + n % 10)]).head? ≠ some 48 := by
        cases hd : Go.Lib.decDigits (n / 10) with
        | nil => exact absurd hd h1
        | cons c r => rw [hd] at hh; simpa using hh
      refine ⟨⟨by simp, by rw [List.all_append, h2]; simp [isD_iff, e]; omega, .inr hhd⟩, ?_, fun _ => hhd⟩
      rw [vD_snoc, h4, e]
      omega
theorem vD_pos {d : List UInt8} (h : d ≠ []) (ha : d.all isD = true) (h0 : d.head? ≠ some 48) : 1 ≤ vD 0 d := by
  cases d with
  | nil => exact absurd rfl h
  | cons c r =>
    simp only [List.all_cons, Bool.and_eq_true, isD_iff] at ha
    have := vD_ge r (10 * 0 + (c.toNat - 48))
    have hc : c.toNat ≠ 48 := fun e => h0 (by simp; exact UInt8.toNat_inj.1 e)
    show 1 ≤ vD (10 * 0 + (c.toNat - 48)) r
    omega
theorem dec_of_good (m : Nat) : ∀ d : List UInt8, d.length = m → good d → Go.Lib.decDigits (vD 0 d) = d := by
  induction m with
  | zero => intro d hl h; exact absurd (List.eq_nil_of_length_eq_zero hl) h.1
  | succ m ih =>
    intro d hl ⟨h1, h2, h3⟩
    obtain ⟨e, c, rfl⟩ : ∃ e c, d = e ++ [c] := ⟨d.dropLast, d.getLast h1, (List.dropLast_concat_getLast h1).symm⟩
    rw [List.all_append, Bool.and_eq_true] at h2
    have hc : isD c = true := by simpa using h2.2
    have hb := isD_iff.1 hc
    rw [vD_snoc]
    by_cases he : e = []
    · subst he
      show Go.Lib.decDigits (10 * 0 + (c.toNat - 48)) = [c]
      rw [Go.Lib.decDigits_one (by omega), show 48 + (10 * 0 + (c.toNat - 48)) = 48 + (c.toNat - 48) by omega, of_digit hc]
    · have hh : e.head? ≠ some 48 := by
        cases e with
        | nil => exact absurd rfl he
        | cons a r =>
          rcases h3 with h3 | h3
          · simp at h3
          · simpa using h3
      have hp := vD_pos he h2.1 hh
      rw [Go.Lib.decDigits, dif_neg (by omega), show (10 * vD 0 e + (c.toNat - 48)) / 10 = vD 0 e by omega, show (10 * vD 0 e + (c.toNat - 48)) % 10 = c.toNat - 48 by omega,
        ih e (by simpa using hl) ⟨he, h2.1, .inr hh⟩, of_digit hc]

/-- The digits behind the sign. -/
def dOf (l : List UInt8) : List UInt8 := if l.head? = some 45 then l.tail else l
/-- The number that a text says, if it says one. -/
def numL (l : List UInt8) : Option Int :=
  if (dOf l ≠ [] ∧ (dOf l).length ≤ 18 ∧ (dOf l).all isD = true ∧ ¬ ((dOf l).head? = some 48 ∧ 1 < l.length)) then some (if l.head? = some 45 then -(vD 0 (dOf l) : Int) else vD 0 (dOf l)) else none

theorem pow18 {k : Nat} (h : k ≤ 18) : (0 + 1) * 10 ^ k ≤ 1000000000000000000 := by
  have h1 : 10 ^ k ≤ 10 ^ 18 := Nat.pow_le_pow_right (by omega) h
  have h2 : (10 : Nat) ^ 18 = 1000000000000000000 := by decide
  omega
theorem pub {d : List UInt8} (h1 : d ≠ []) (h2 : d.length ≤ 18) : Go.Lib.parseUintB 64 d = if d.all isD then .ok (vD 0 d) else .«syntax» := by
  unfold Go.Lib.parseUintB
  rw [if_neg h1, pum d 0 (pow18 h2)]
theorem vD_18 {d : List UInt8} (h : d.all isD = true) (h2 : d.length ≤ 18) : vD 0 d < 1000000000000000000 := by
  have h1 := vD_lt d 0 h
  have h3 := pow18 h2
  omega
theorem pib_neg {d : List UInt8} (h1 : d ≠ []) (h2 : d.length ≤ 18) : Go.Lib.parseIntB 64 (45 :: d) = if d.all isD then .ok (-(vD 0 d : Int)) else .«syntax» := by
  show (match Go.Lib.parseUintB 64 d with | .«syntax» => _ | .range => _ | .ok u => _) = _
  rw [pub h1 h2]
  by_cases h : d.all isD = true
  · have h3 := vD_18 h h2
    rw [if_pos h, if_pos h]
    show (if ¬ (45 : UInt8).toNat = 45 ∧ 2 ^ (64 - 1) ≤ vD 0 d then Go.Lib.NumEnd.range else if (45 : UInt8).toNat = 45 ∧ 2 ^ (64 - 1) < vD 0 d then .range else .ok (if (45 : UInt8).toNat = 45 then -(vD 0 d : Int) else vD 0 d)) = _
    have e : (45 : UInt8).toNat = 45 := rfl
    rw [if_neg (fun h => h.1 e), if_neg (fun h => by have := h.2; omega), if_pos e]
  · rw [if_neg h, if_neg h]
theorem pib_pos {c : UInt8} {r : List UInt8} (hc : c.toNat ≠ 45) (hc2 : c.toNat ≠ 43) (h2 : (c :: r).length ≤ 18) : Go.Lib.parseIntB 64 (c :: r) = if (c :: r).all isD then .ok (vD 0 (c :: r) : Int) else .«syntax» := by
  show (match Go.Lib.parseUintB 64 (if c.toNat = 43 ∨ c.toNat = 45 then r else c :: r) with | .«syntax» => _ | .range => _ | .ok u => _) = _
  rw [if_neg (by omega), pub (by simp) h2]
  by_cases h : (c :: r).all isD = true
  · have h3 := vD_18 h h2
    rw [if_pos h, if_pos h]
    show (if ¬ c.toNat = 45 ∧ 2 ^ (64 - 1) ≤ vD 0 (c :: r) then Go.Lib.NumEnd.range else if c.toNat = 45 ∧ 2 ^ (64 - 1) < vD 0 (c :: r) then .range else .ok (if c.toNat = 45 then -(vD 0 (c :: r) : Int) else vD 0 (c :: r))) = _
    rw [if_neg (fun h => by have := h.2; omega), if_neg (fun h => hc h.1), if_neg hc]
  · rw [if_neg h, if_neg h]
theorem pib_plus {r : List UInt8} (h2 : (43 :: r : List UInt8).length ≤ 18) : Go.Lib.parseIntB 64 (43 :: r) = .«syntax» ∨ ∃ v : Nat, v < 1000000000000000000 ∧ Go.Lib.parseIntB 64 (43 :: r) = .ok (v : Int) := by
  by_cases h0 : r = []
  · subst h0; exact .inl rfl
  · have hr : r.length ≤ 18 := by simp at h2; omega
    have e : Go.Lib.parseIntB 64 (43 :: r) = (match Go.Lib.parseUintB 64 r with | .«syntax» => .«syntax» | .range => .range | .ok u => if ¬ (43 : UInt8).toNat = 45 ∧ 2 ^ (64 - 1) ≤ u then .range else if (43 : UInt8).toNat = 45 ∧ 2 ^ (64 - 1) < u then .range else .ok (if (43 : UInt8).toNat = 45 then -(u : Int) else u)) := rfl
    rw [e, pub h0 hr]
    by_cases h : r.all isD = true
    · have h3 := vD_18 h hr
      refine .inr ⟨vD 0 r, h3, ?_⟩
      rw [if_pos h]
      show (if ¬ (43 : UInt8).toNat = 45 ∧ 2 ^ (64 - 1) ≤ vD 0 r then Go.Lib.NumEnd.range else if (43 : UInt8).toNat = 45 ∧ 2 ^ (64 - 1) < vD 0 r then .range else .ok (if (43 : UInt8).toNat = 45 then -(vD 0 r : Int) else vD 0 r)) = _
      have e1 : ¬ (43 : UInt8).toNat = 45 := by decide
      rw [if_neg (fun h => by have := h.2; omega), if_neg (fun h => e1 h.1), if_neg e1]
    · rw [if_neg h]; exact .inl rfl

theorem itoa_pos (u : Nat) : Go.Lib.itoa (u : Int) = Go.Lib.decDigits u := Go.Lib.itoa_nonneg u
theorem dec_digits (u : Nat) : (Go.Lib.decDigits u).all isD = true := (dec_good u).1.2.1
/-- What ReadDecimal finds: the numeral, or what its two tests refuse. -/
theorem read_num (l : List UInt8) (h1 : dOf l ≠ []) (h2 : (dOf l).length ≤ 18) :
    (∃ n, numL l = some n ∧ Go.Lib.parseIntB 64 l = .ok n ∧ Go.Lib.itoa n = l ∧ -1000000000000000000 < n ∧ n < 1000000000000000000) ∨
    (numL l = none ∧ Go.Lib.parseIntB 64 l = .«syntax») ∨
    (∃ v, numL l = none ∧ Go.Lib.parseIntB 64 l = .ok v ∧ Go.Lib.itoa v ≠ l ∧ -1000000000000000000 < v ∧ v < 1000000000000000000) := by
  cases l with
  | nil => exact absurd rfl h1
  | cons c r =>
    by_cases hc : c = 45
    · subst hc
      have hd : dOf (45 :: r) = r := by simp [dOf]
      rw [hd] at h1 h2
      have hp := pib_neg h1 h2
      by_cases ha : r.all isD = true
      · rw [if_pos ha] at hp
        have hv := vD_18 ha h2
        have hl : 1 ≤ r.length := by cases r with | nil => exact absurd rfl h1 | cons => simp
        by_cases h0 : r.head? = some 48
        · refine .inr (.inr ⟨_, ?_, hp, ?_, by omega, by omega⟩)
          · unfold numL; rw [hd, if_neg]; rintro ⟨-, -, -, h⟩; exact h ⟨h0, by simp; omega⟩
          · intro he
            by_cases hz : vD 0 r = 0
            · rw [hz] at he
              have e2 : Go.Lib.itoa (-((0 : Nat) : Int)) = [48] := by
                show Go.Lib.itoa ((0 : Nat) : Int) = [48]
                rw [itoa_pos, Go.Lib.decDigits_one (by omega)]; rfl
              rw [e2] at he
              simp at he
            · rw [Go.Lib.itoa_neg _ (by omega)] at he
              have he2 : Go.Lib.decDigits (vD 0 r) = r := by simpa using he
              exact (dec_good (vD 0 r)).2.2 (by omega) (by rw [he2]; exact h0)
        · refine .inl ⟨_, ?_, hp, ?_, by omega, by omega⟩
          · unfold numL; rw [hd, if_pos ⟨h1, h2, ha, fun h => h0 h.1⟩]; simp
          · have hpos := vD_pos h1 ha h0
            rw [Go.Lib.itoa_neg _ hpos, dec_of_good _ r rfl ⟨h1, ha, .inr h0⟩]
      · rw [if_neg ha] at hp
        exact .inr (.inl ⟨by unfold numL; rw [hd, if_neg]; rintro ⟨-, -, h, -⟩; exact ha h, hp⟩)
    · have hd : dOf (c :: r) = c :: r := by unfold dOf; rw [if_neg (by simpa using hc)]
      rw [hd] at h1 h2
      have hcn : c.toNat ≠ 45 := fun e => hc (UInt8.toNat_inj.1 e)
      by_cases hc3 : c = 43
      · subst hc3
        have hnone : numL (43 :: r) = none := by unfold numL; rw [hd, if_neg]; rintro ⟨-, -, h, -⟩; simp [isD] at h
        rcases pib_plus h2 with h | ⟨v, hv, h⟩
        · exact .inr (.inl ⟨hnone, h⟩)
        · refine .inr (.inr ⟨v, hnone, h, fun he => ?_, by omega, by omega⟩)
          rw [itoa_pos] at he
          have := dec_digits v
          rw [he] at this
          simp [isD] at this
      · have hcn3 : c.toNat ≠ 43 := fun e => hc3 (UInt8.toNat_inj.1 e)
        have hp := pib_pos hcn hcn3 h2
        by_cases ha : (c :: r).all isD = true
        · rw [if_pos ha] at hp
          have hv := vD_18 ha h2
          by_cases h0 : (c :: r).head? = some 48 ∧ 1 < (c :: r).length
          · refine .inr (.inr ⟨_, ?_, hp, fun he => ?_, by omega, by omega⟩)
            · unfold numL; rw [hd, if_neg]; rintro ⟨-, -, -, h⟩; exact h h0
            · rw [itoa_pos] at he
              by_cases hz : vD 0 (c :: r) = 0
              · rw [hz, Go.Lib.decDigits_one (by omega)] at he
                have := congrArg List.length he
                simp at this
                have := h0.2
                simp at this
                simp_all
              · exact (dec_good (vD 0 (c :: r))).2.2 (by omega) (by rw [he]; exact h0.1)
          · refine .inl ⟨_, ?_, hp, ?_, by omega, by omega⟩
            · unfold numL; rw [hd, if_pos ⟨h1, h2, ha, h0⟩, if_neg (by simpa using hc)]
            · rw [itoa_pos]
              refine dec_of_good _ _ rfl ⟨h1, ha, ?_⟩
              by_cases h3 : (c :: r).length = 1
              · exact .inl h3
              · exact .inr (fun h => h0 ⟨h, by simp at h3 ⊢; exact List.length_pos_iff.2 h3⟩)
        · rw [if_neg ha] at hp
          exact .inr (.inl ⟨by unfold numL; rw [hd, if_neg]; rintro ⟨-, -, h, -⟩; exact ha h, hp⟩)

end Go.Proofs.YtjmklkhdemolmaaGreatDoor
