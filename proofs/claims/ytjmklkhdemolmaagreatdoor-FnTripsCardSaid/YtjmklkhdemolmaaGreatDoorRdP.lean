/- What the two readings of a ride's text answer, and that it is the same. No program. -/
import Derived.Test.YtjmklkhdemolmaaGreatDoorSpl
import Derived.Test.YtjmklkhdemolmaaGreatDoorRideT
import Derived.Lib.IndexLaws
namespace Go.Proofs.YtjmklkhdemolmaaGreatDoor
open Go.RowKit Go.Deep
set_option linter.unusedVariables false
set_option maxRecDepth 100000

theorem spl_plain {b : UInt8} (l : List UInt8) : ∀ acc, (∀ c ∈ l, c ≠ b) → spl b acc l = [acc ++ l] := by
  induction l with
  | nil => intro acc _; rw [spl, List.append_nil]
  | cons c r ih =>
    intro acc h
    rw [spl_miss (h c (by simp)), ih _ (fun x hx => h x (by simp [hx]))]
    simp
theorem spl_first {b : UInt8} (l r : List UInt8) : ∀ acc, (∀ c ∈ l, c ≠ b) → spl b acc (l ++ b :: r) = (acc ++ l) :: spl b [] r := by
  induction l with
  | nil => intro acc _; rw [List.nil_append, spl_hit, List.append_nil]
  | cons c r' ih =>
    intro acc h
    rw [List.cons_append, spl_miss (h c (by simp)), ih _ (fun x hx => h x (by simp [hx]))]
    simp
theorem spl_ne (b : UInt8) (l : List UInt8) : ∀ acc, spl b acc l ≠ [] := by
  induction l with
  | nil => intro acc; rw [spl]; simp
  | cons c r ih => intro acc; rw [spl]; split; · simp
                   · exact ih _
theorem spl_one {b : UInt8} (l : List UInt8) : ∀ acc x, spl b acc l = [x] → x = acc ++ l ∧ ∀ c ∈ l, c ≠ b := by
  induction l with
  | nil => intro acc x h; rw [spl] at h; injection h with h _; exact ⟨by rw [← h, List.append_nil], by simp⟩
  | cons c r ih =>
    intro acc x h
    by_cases hc : c = b
    · subst hc
      rw [spl_hit] at h
      injection h with _ h
      exact absurd h (spl_ne _ _ _)
    · rw [spl_miss hc] at h
      obtain ⟨h1, h2⟩ := ih _ _ h
      exact ⟨by rw [h1]; simp, fun y hy => (List.mem_cons.1 hy).elim (fun e => by rw [e]; exact hc) (h2 y)⟩
theorem spl_two {b : UInt8} (l : List UInt8) : ∀ acc x y, spl b acc l = [x, y] → ∃ u, x = acc ++ u ∧ l = u ++ b :: y ∧ (∀ c ∈ u, c ≠ b) ∧ ∀ c ∈ y, c ≠ b := by
  induction l with
  | nil => intro acc x y h; rw [spl] at h; cases h
  | cons c r ih =>
    intro acc x y h
    by_cases hc : c = b
    · subst hc
      rw [spl_hit] at h
      injection h with h1 h2
      obtain ⟨h3, h4⟩ := spl_one _ _ _ h2
      rw [List.nil_append] at h3
      subst h3
      exact ⟨[], by rw [← h1, List.append_nil], rfl, by simp, h4⟩
    · rw [spl_miss hc] at h
      obtain ⟨u, h1, h2, h3, h4⟩ := ih _ _ _ h
      exact ⟨c :: u, by rw [h1]; simp, by rw [h2]; rfl, fun y hy => (List.mem_cons.1 hy).elim (fun e => by rw [e]; exact hc) (h3 y), h4⟩

/-! ### The first of the bytes: what Cut finds -/
/-- What lies ahead of the first b, and behind it. -/
def cutA (b : UInt8) : List UInt8 → List UInt8
  | [] => []
  | c :: r => if c = b then [] else c :: cutA b r
def cutB (b : UInt8) : List UInt8 → List UInt8
  | [] => []
  | c :: r => if c = b then r else cutB b r
theorem cut_none {b : UInt8} (l : List UInt8) : Lib.indexByte l b = -1 → cutA b l = l ∧ cutB b l = [] := by
  induction l with
  | nil => intro _; exact ⟨rfl, rfl⟩
  | cons c r ih =>
    intro h
    unfold Lib.indexByte at h
    split at h
    · simp at h
    · rename_i hb
      have hc : c ≠ b := fun e => hb (by simp [e])
      have h1 := Lib.indexByte_ge r b
      have h2 : Lib.indexByte r b = -1 := by
        split at h
        · rename_i hl; exact beq_iff_eq.1 hl
        · omega
      obtain ⟨h3, h4⟩ := ih h2
      exact ⟨by rw [cutA, if_neg hc, h3], by rw [cutB, if_neg hc, h4]⟩
theorem cut_some {b : UInt8} (l : List UInt8) : ∀ k : Nat, Lib.indexByte l b = (k : Int) → cutA b l = l.take k ∧ cutB b l = l.drop (k + 1) ∧ k < l.length := by
  induction l with
  | nil => intro k h; simp [Lib.indexByte] at h
  | cons c r ih =>
    intro k h
    unfold Lib.indexByte at h
    split at h
    · rename_i hb
      have hc : c = b := by simpa using hb
      have : k = 0 := by omega
      subst this
      exact ⟨by rw [cutA, if_pos hc]; rfl, by rw [cutB, if_pos hc]; rfl, by simp⟩
    · rename_i hb
      have hc : c ≠ b := fun e => hb (by simp [e])
      have h1 := Lib.indexByte_ge r b
      split at h
      · omega
      · rename_i hl
        have hl2 : Lib.indexByte r b ≠ -1 := fun e => hl (by simp [e])
        obtain ⟨j, hj⟩ : ∃ j : Nat, Lib.indexByte r b = (j : Int) := ⟨(Lib.indexByte r b).toNat, by omega⟩
        have : k = j + 1 := by omega
        subst this
        obtain ⟨h3, h4, h5⟩ := ih j hj
        exact ⟨by rw [cutA, if_neg hc, h3]; rfl, by rw [cutB, if_neg hc, h4]; rfl, by simp; omega⟩
theorem cut_at {b : UInt8} (u y : List UInt8) (h : ∀ c ∈ u, c ≠ b) : cutA b (u ++ b :: y) = u ∧ cutB b (u ++ b :: y) = y := by
  induction u with
  | nil => exact ⟨by rw [List.nil_append, cutA, if_pos rfl], by rw [List.nil_append, cutB, if_pos rfl]⟩
  | cons c r ih =>
    obtain ⟨h1, h2⟩ := ih (fun x hx => h x (by simp [hx]))
    have hc := h c (by simp)
    exact ⟨by rw [List.cons_append, cutA, if_neg hc, h1], by rw [List.cons_append, cutB, if_neg hc, h2]⟩
theorem cutA_len (b : UInt8) (l : List UInt8) : (cutA b l).length ≤ l.length := by
  induction l with
  | nil => exact Nat.le_refl _
  | cons c r ih => rw [cutA]; split <;> simp; exact ih
theorem cutB_len (b : UInt8) (l : List UInt8) : (cutB b l).length ≤ l.length := by
  induction l with
  | nil => exact Nat.le_refl _
  | cons c r ih => rw [cutB]; split <;> simp; omega

/-! ### Numerals -/
theorem nd_le : ∀ m u : Nat, u < 10 ^ (m + 1) → Lib.nDigits u ≤ m + 1 := by
  intro m
  induction m with
  | zero => intro u h; rw [Lib.nDigits_small (by omega)]; exact Nat.le_refl _
  | succ m ih =>
    intro u h
    by_cases h1 : u < 10
    · rw [Lib.nDigits_small h1]; omega
    · rw [Lib.nDigits_big h1]
      rw [Nat.pow_succ] at h
      have := ih (u / 10) (by omega)
      omega
theorem num_dec (n : Nat) (hn : n ≤ 1000000000) : numV (Lib.decDigits n) = n ∧ numB (Lib.decDigits n) = true := by
  obtain ⟨⟨h1, h2, h3⟩, h4, h5⟩ := dec_good n
  have hl : (Lib.decDigits n).length ≤ 18 := by
    have h8 : (Lib.decDigits n).length = Lib.nDigits n := by rw [Lib.decDigits_eq]; simp
    have h9 := nd_le 9 n (Nat.lt_of_le_of_lt hn (by decide))
    omega
  have hh : (Lib.decDigits n).head? ≠ some 45 := by
    cases hd : Lib.decDigits n with
    | nil => exact absurd hd h1
    | cons c r =>
      rw [hd] at h2
      simp only [List.all_cons, Bool.and_eq_true, isD_iff] at h2
      intro e
      simp at e
      subst e
      have : (45 : UInt8).toNat = 45 := rfl
      omega
  have hd : dOf (Lib.decDigits n) = Lib.decDigits n := by unfold dOf; rw [if_neg hh]
  have : numL (Lib.decDigits n) = some (n : Int) := by
    unfold numL
    rw [hd, if_pos ⟨h1, hl, h2, fun e => by
      rcases h3 with h3 | h3
      · omega
      · exact h3 e.1⟩, if_neg hh, h4]
  unfold numV numB
  rw [this]
  exact ⟨rfl, rfl⟩

/-! ### The two readings -/
theorem bsL_inj {a b : List UInt8} (h : bsL a = bsL b) : a = b := by
  have := congrArg (fun s : ByteArray => s.data.toList) h
  simpa [bsL] using this
theorem bsL_append (a b : List UInt8) : bsL a ++ bsL b = bsL (a ++ b) := by
  apply ByteArray.ext
  rw [ByteArray.data_append]
  simp [bsL]
theorem bsL_data (s : ByteArray) : bsL s.data.toList = s := rfl
theorem ride_list {l t : Int} (h : vRide l t = true) : rideS l t = bsL (Lib.decDigits l.toNat ++ 43 :: Lib.decDigits t.toNat) := by
  rw [rideS_yes h]
  have e : ∀ n, decS n = bsL (Lib.decDigits n) := fun n => by unfold decS; rfl
  rw [e, e, show (⟨#[43]⟩ : ByteArray) = bsL [43] from rfl, bsL_append, bsL_append]
  simp
def rdI (l : List UInt8) : Int × Int × Bool := if vRide (numV (cutA 43 l)) (numV (cutB 43 l)) = true ∧ rideS (numV (cutA 43 l)) (numV (cutB 43 l)) = bsL l then (numV (cutA 43 l), numV (cutB 43 l), true) else (0, 0, false)
def twoL : List (List UInt8) → Int × Int × Bool
  | [x, y] => (numV x, numV y, numB x && numB y)
  | _ => (0, 0, false)
def rdS (l : List UInt8) : Int × Int × Bool := if (twoL (spl 43 [] l)).2.2 = true ∧ vRide (twoL (spl 43 [] l)).1 (twoL (spl 43 [] l)).2.1 = true then ((twoL (spl 43 [] l)).1, (twoL (spl 43 [] l)).2.1, true) else (0, 0, false)
theorem dig_ne {n : Nat} : ∀ c ∈ Lib.decDigits n, c ≠ 43 := by
  intro c hc e
  have := isD_iff.1 (List.all_eq_true.1 (dec_digits n) c hc)
  subst e
  have : (43 : UInt8).toNat = 43 := rfl
  omega
theorem num_itoa {x : List UInt8} (h : numB x = true) (h0 : 0 ≤ numV x) : Lib.decDigits (numV x).toNat = x := by
  unfold numB at h
  obtain ⟨n, hn⟩ := Option.isSome_iff_exists.1 h
  by_cases hl : dOf x = [] ∨ 18 < (dOf x).length
  · rw [numL_long hl] at hn; cases hn
  · rcases read_num x (fun e => hl (.inl e)) (by omega) with ⟨m, h1, -, h2, -⟩ | ⟨h1, -⟩ | ⟨m, h1, -⟩
    · have hv : numV x = m := by unfold numV; rw [h1]; rfl
      rw [hv] at h0 ⊢
      have := itoa_pos m.toNat
      rw [show ((m.toNat : Nat) : Int) = m by omega, h2] at this
      exact this.symm
    · rw [h1] at hn; cases hn
    · rw [h1] at hn; cases hn
theorem rd_eq (l : List UInt8) : rdI l = rdS l := by
  by_cases hS : (twoL (spl 43 [] l)).2.2 = true ∧ vRide (twoL (spl 43 [] l)).1 (twoL (spl 43 [] l)).2.1 = true
  · have hs : ∃ x y, spl 43 [] l = [x, y] := by
      have := hS.1
      unfold twoL at this
      split at this
      · rename_i x y e; exact ⟨x, y, e⟩
      · cases this
    obtain ⟨x, y, e⟩ := hs
    obtain ⟨u, h1, h2, h3, h4⟩ := spl_two _ _ _ _ e
    rw [List.nil_append] at h1
    subst h1
    have hc := cut_at x y h3
    rw [← h2] at hc
    unfold rdS
    rw [if_pos hS]
    rw [e] at hS ⊢
    have hS1 : (numB x && numB y) = true := hS.1
    have hS2 : vRide (numV x) (numV y) = true := hS.2
    rw [Bool.and_eq_true] at hS1
    have ho := vRide_out hS2
    unfold rdI
    rw [hc.1, hc.2, if_pos]
    · rfl
    · refine ⟨hS2, ?_⟩
      rw [ride_list hS2, num_itoa hS1.1 ho.1, num_itoa hS1.2 (by omega), h2]
  · unfold rdS
    rw [if_neg hS]
    unfold rdI
    rw [if_neg]
    rintro ⟨h1, h2⟩
    rw [ride_list h1] at h2
    have h2 := bsL_inj h2
    have ho := vRide_out h1
    apply hS
    rw [← h2, spl_first _ _ _ dig_ne, spl_plain _ _ dig_ne]
    have n1 := num_dec (numV (cutA 43 l)).toNat (by omega)
    have n2 := num_dec (numV (cutB 43 l)).toNat (by omega)
    show (numB ([] ++ Lib.decDigits (numV (cutA 43 l)).toNat) && numB ([] ++ Lib.decDigits (numV (cutB 43 l)).toNat)) = true ∧ vRide (numV ([] ++ Lib.decDigits (numV (cutA 43 l)).toNat)) (numV ([] ++ Lib.decDigits (numV (cutB 43 l)).toNat)) = true
    rw [List.nil_append, List.nil_append, n1.1, n1.2, n2.1, n2.2]
    refine ⟨rfl, ?_⟩
    rw [show (((numV (cutA 43 l)).toNat : Nat) : Int) = numV (cutA 43 l) by omega, show (((numV (cutB 43 l)).toNat : Nat) : Int) = numV (cutB 43 l) by omega]
    exact h1
attribute [irreducible] cutA cutB rdI rdS twoL

end Go.Proofs.YtjmklkhdemolmaaGreatDoor
