/- The text of a list of numbers, and that reading it back by its text is reading it by its parts. No program. -/
import Derived.Test.YtjmklkhdemolmaaGreatDoorRlS
import Derived.Test.YtjmklkhdemolmaaGreatDoorRlP
import Derived.Lib.SplitLaws
import Derived.Lib.IndexBytes
import Derived.Lib.Join
namespace Go.Proofs.YtjmklkhdemolmaaGreatDoor
open Go.RowKit Go.Deep
set_option linter.unusedVariables false
set_option maxRecDepth 100000

/-! ### strings.Split at one byte gives the parts -/
theorem cut_form {b : UInt8} {l : List UInt8} {i : Nat} (h : Lib.indexByte l b = (i : Int)) : l = l.take i ++ b :: l.drop (i + 1) ∧ ∀ c ∈ l.take i, c ≠ b := by
  obtain ⟨h1, h2⟩ := Lib.indexByte_some h
  refine ⟨?_, ?_⟩
  · obtain ⟨hl, he⟩ := List.getElem?_eq_some_iff.1 h1
    conv => lhs; rw [← List.take_append_drop i l, List.drop_eq_getElem_cons hl, he]
  · intro c hc e
    subst e
    obtain ⟨k, hk, hke⟩ := List.mem_iff_getElem.1 hc
    have hk2 : k < i := by rw [List.length_take] at hk; omega
    refine h2 k hk2 ?_
    rw [List.getElem_take] at hke
    rw [List.getElem?_eq_getElem (by rw [List.length_take] at hk; omega), hke]
theorem split_spl (b : UInt8) : ∀ (k : Nat) (s : ByteArray), Lib.countB s ⟨#[b]⟩ = k → Lib.splitB ⟨#[b]⟩ 0 k s = splB b s := by
  have hone : (⟨#[b]⟩ : ByteArray).size = 1 := rfl
  have key : ∀ s : ByteArray, Lib.indexB s ⟨#[b]⟩ = Lib.indexByte s.data.toList b := fun s => Lib.index_one s.data.toList b
  have miss : ∀ s : ByteArray, Lib.indexB s ⟨#[b]⟩ = -1 → splB b s = [s] := by
    intro s h
    rw [key] at h
    unfold splB
    rw [spl_plain _ _ (fun c hc e => by
      subst e
      obtain ⟨k, hk⟩ := List.mem_iff_getElem?.1 hc
      exact Lib.indexByte_none h k hk)]
    rfl
  intro k
  induction k with
  | zero =>
    intro s hc
    rcases Lib.indexB_cases s ⟨#[b]⟩ with h | ⟨i, h, -⟩
    · rw [Lib.splitB_zero, miss s h]
    · have := Lib.countB_hit s ⟨#[b]⟩ i (by omega) h
      omega
  | succ k ih =>
    intro s hc
    rcases Lib.indexB_cases s ⟨#[b]⟩ with h | ⟨i, h, hr⟩
    · rw [Lib.countB_miss s _ h] at hc; omega
    · have h2 := Lib.countB_hit s ⟨#[b]⟩ i (by omega) h
      rw [hone] at h2
      rw [Lib.splitB_hit _ _ _ _ i h, Nat.add_zero, hone, ih _ (by omega)]
      rw [key] at h
      obtain ⟨h3, h4⟩ := cut_form h
      unfold splB
      conv => rhs; rw [h3]
      rw [spl_first _ _ _ h4, List.map_cons, List.nil_append, extract_list, extract_list, List.drop_zero, Nat.sub_zero]
      congr 3
      show List.take (s.size - (i + 1)) (List.drop (i + 1) s.data.toList) = _
      rw [List.take_of_length_le (by simp)]

theorem split_len (b : UInt8) (s : ByteArray) : Lib.countB s ⟨#[b]⟩ + 1 = (splB b s).length := by
  rw [← split_spl b _ s rfl, Lib.splitB_all _ (by show 1 ≤ 1; omega) _ _ _ rfl]

/-! ### Numerals with a sign -/
theorem numZ_itoa {x : List UInt8} (h : numB x = true) : Lib.itoa (numV x) = x := by
  unfold numB at h
  obtain ⟨n, hn⟩ := Option.isSome_iff_exists.1 h
  by_cases hl : dOf x = [] ∨ 18 < (dOf x).length
  · rw [numL_long hl] at hn; cases hn
  · rcases read_num x (fun e => hl (.inl e)) (by omega) with ⟨m, h1, -, h2, -⟩ | ⟨h1, -⟩ | ⟨m, h1, -⟩
    · have hv : numV x = m := by unfold numV; rw [h1]; rfl
      rw [hv, h2]
    · rw [h1] at hn; cases hn
    · rw [h1] at hn; cases hn
theorem dec_len (n : Nat) (hn : n ≤ 1000000000000) : (Lib.decDigits n).length ≤ 18 := by
  have h8 : (Lib.decDigits n).length = Lib.nDigits n := by rw [Lib.decDigits_eq]; simp
  have h9 := nd_le 12 n (Nat.lt_of_le_of_lt hn (by decide))
  omega
theorem dec_head (n : Nat) : (Lib.decDigits n).head? ≠ some 45 := by
  obtain ⟨⟨h1, h2, h3⟩, h4, h5⟩ := dec_good n
  cases hd : Lib.decDigits n with
  | nil => exact absurd hd h1
  | cons c r =>
    rw [hd] at h2
    simp only [List.all_cons, Bool.and_eq_true, isD_iff] at h2
    intro e
    simp at e
    subst e
    have : (45 : UInt8).toNat = 45 := rfl
    omega
theorem itoa_num (z : Int) (hz : -1000000000000 ≤ z ∧ z ≤ 1000000000000) : numV (Lib.itoa z) = z ∧ numB (Lib.itoa z) = true := by
  by_cases h0 : 0 ≤ z
  · obtain ⟨n, rfl⟩ : ∃ n : Nat, z = (n : Int) := ⟨z.toNat, by omega⟩
    rw [itoa_pos]
    obtain ⟨⟨h1, h2, h3⟩, h4, h5⟩ := dec_good n
    have hh := dec_head n
    have hl := dec_len n (by omega)
    have hd : dOf (Lib.decDigits n) = Lib.decDigits n := by unfold dOf; rw [if_neg hh]
    have : numL (Lib.decDigits n) = some (n : Int) := by
      unfold numL
      rw [hd, if_pos ⟨h1, hl, h2, fun e => by
        rcases h3 with h3 | h3
        · omega
        · exact h3 e.1⟩, if_neg hh, h4]
    unfold numV numB
    rw [this]
    exact ⟨rfl, rfl⟩
  · obtain ⟨n, rfl⟩ : ∃ n : Nat, z = -(n : Int) := ⟨z.natAbs, by omega⟩
    rw [Lib.itoa_neg n (by omega)]
    obtain ⟨⟨h1, h2, h3⟩, h4, h5⟩ := dec_good n
    have hl := dec_len n (by omega)
    have hd : dOf (45 :: Lib.decDigits n) = Lib.decDigits n := by simp [dOf]
    have : numL (45 :: Lib.decDigits n) = some (-(n : Int)) := by
      unfold numL
      rw [hd, if_pos ⟨h1, hl, h2, fun e => h5 (by omega) e.1⟩, if_pos (by rfl), h4]
    unfold numV numB
    rw [this]
    exact ⟨rfl, rfl⟩
theorem itoa_ne44 (z : Int) : ∀ c ∈ Lib.itoa z, c ≠ 44 := by
  intro c hc e
  subst e
  unfold Lib.itoa at hc
  have hd : ∀ n, (44 : UInt8) ∈ Lib.decDigits n → False := fun n h => by
    have := isD_iff.1 (List.all_eq_true.1 (dec_digits n) _ h)
    have : (44 : UInt8).toNat = 44 := rfl
    omega
  split at hc
  · rcases List.mem_cons.1 hc with h | h
    · exact absurd h (by decide)
    · exact hd _ h
  · exact hd _ hc

/-! ### The text of a list -/
theorem join_eq (b : UInt8) : ∀ xs : List (List UInt8), Lib.join xs [b] = joinB b xs
  | [] => rfl
  | [x] => by rw [Lib.join_one, joinB]
  | x :: y :: r => by
    have ih := join_eq b (y :: r)
    rw [joinB, ← ih, Lib.join_cons, Lib.join_cons]
    simp [Lib.joinTail]
/-- The text of a list: with too many elements, or one too large, there is none. -/
def fitZ (L : List Int) : Bool := decide (L.length ≤ 64) && L.all (fun x => inB x (-1000000000000) 1000000000000)
def listZ (L : List Int) : ByteArray := if fitZ L = true then (if L = [] then ⟨#[45]⟩ else bsL (Lib.join (L.map Lib.itoa) [44])) else ⟨#[]⟩
theorem listZ_no {L : List Int} (h : fitZ L = false) : listZ L = ⟨#[]⟩ := by unfold listZ; rw [if_neg (by rw [h]; simp)]
theorem listZ_nil : listZ [] = ⟨#[45]⟩ := by unfold listZ; rw [if_pos (by rfl), if_pos rfl]
theorem listZ_yes {L : List Int} (h : fitZ L = true) (h2 : L ≠ []) : listZ L = bsL (Lib.join (L.map Lib.itoa) [44]) := by unfold listZ; rw [if_pos h, if_neg h2]
/-- All the parts' numbers. -/
def numsS (s : ByteArray) : List Int := (spl 44 [] s.data.toList).map numV
theorem range_getD {α β : Type} (f : α → β) (d : α) : ∀ l : List α, (List.range l.length).map (fun i => f (l.getD i d)) = l.map f := by
  intro l
  apply List.ext_getElem
  · simp
  · intro i h1 h2
    simp at h1 h2
    simp [h2]
theorem nums_eq (s : ByteArray) : numsK (partZ s) (splB 44 s).length = numsS s := by
  unfold numsK numsS
  have e : (fun i => numV (partZ s i).data.toList) = (fun i => (fun z : ByteArray => numV z.data.toList) ((splB 44 s).getD i ⟨#[]⟩)) := by funext i; unfold partZ; rfl
  rw [e]
  refine (range_getD (fun z : ByteArray => numV z.data.toList) ⟨#[]⟩ (splB 44 s)).trans ?_
  unfold splB
  rw [List.map_map]
  rfl
theorem splB_getD (s : ByteArray) (k : Nat) (hk : k < (spl 44 [] s.data.toList).length) : (partZ s k).data.toList = (spl 44 [] s.data.toList)[k] := by
  unfold partZ splB
  rw [List.getD_eq_getElem?_getD, List.getElem?_map, List.getElem?_eq_getElem hk]
  rfl
theorem rl_iff {s : ByteArray} (h : ¬ s = ⟨#[45]⟩) : rlB s = true ↔ (spl 44 [] s.data.toList).length ≤ 64 ∧ ∀ x ∈ spl 44 [] s.data.toList, numB x = true ∧ inB (numV x) (-1000000000000) 1000000000000 = true := by
  unfold rlB
  rw [show decide (s = ⟨#[45]⟩) = false from by simpa using h, Bool.false_or, Bool.and_eq_true, decide_eq_true_iff, splB_len]
  constructor
  · rintro ⟨h1, h2⟩
    refine ⟨h1, fun x hx => ?_⟩
    obtain ⟨k, hk, rfl⟩ := List.mem_iff_getElem.1 hx
    have := allTo_out h2 k hk
    unfold okZ at this
    rw [splB_getD s k hk, Bool.and_eq_true] at this
    exact this
  · rintro ⟨h1, h2⟩
    refine ⟨h1, allTo_yes fun k hk => ?_⟩
    have := h2 _ (List.getElem_mem hk)
    unfold okZ
    rw [splB_getD s k hk, Bool.and_eq_true]
    exact this
theorem nums_ne (s : ByteArray) : numsS s ≠ [] := by unfold numsS; simp; exact spl_ne _ _ _
theorem map_same {α : Type} {f : α → α} : ∀ l : List α, (∀ x ∈ l, f x = x) → l.map f = l
  | [], _ => rfl
  | x :: r, h => by rw [List.map_cons, h x (by simp), map_same r (fun y hy => h y (by simp [hy]))]
theorem list_back {s : ByteArray} (h : ¬ s = ⟨#[45]⟩) : listZ (numsS s) = s ↔ rlB s = true := by
  rw [rl_iff h]
  constructor
  · intro he
    cases hf : fitZ (numsS s) with
    | false =>
      rw [listZ_no hf] at he
      subst he
      exact absurd hf (by decide)
    | true =>
      rw [listZ_yes hf (nums_ne s), join_eq] at he
      have hm : ∀ y ∈ (numsS s).map Lib.itoa, ∀ c ∈ y, c ≠ 44 := fun y hy => by
        obtain ⟨z, -, rfl⟩ := List.mem_map.1 hy
        exact itoa_ne44 z
      have hsp := spl_join (b := 44) ((numsS s).map Lib.itoa) (by simpa using nums_ne s) hm
      have hd : joinB 44 ((numsS s).map Lib.itoa) = s.data.toList := by
        have := congrArg (fun z : ByteArray => z.data.toList) he
        simpa [bsL] using this
      rw [hd] at hsp
      unfold fitZ at hf
      rw [Bool.and_eq_true, decide_eq_true_iff, List.all_eq_true] at hf
      refine ⟨by have := hf.1; unfold numsS at this; simpa using this, fun x hx => ?_⟩
      rw [hsp] at hx
      obtain ⟨z, hz, rfl⟩ := List.mem_map.1 hx
      have h1 := hf.2 z hz
      obtain ⟨h2, h3⟩ := itoa_num z (inB_out h1)
      exact ⟨h3, by rw [h2]; exact h1⟩
  · rintro ⟨h1, h2⟩
    have hf : fitZ (numsS s) = true := by
      unfold fitZ
      rw [Bool.and_eq_true, decide_eq_true_iff, List.all_eq_true]
      refine ⟨by unfold numsS; simpa using h1, fun z hz => ?_⟩
      unfold numsS at hz
      obtain ⟨x, hx, rfl⟩ := List.mem_map.1 hz
      exact (h2 x hx).2
    rw [listZ_yes hf (nums_ne s), join_eq]
    have e : (numsS s).map Lib.itoa = spl 44 [] s.data.toList := by
      unfold numsS
      rw [List.map_map]
      exact map_same _ (fun x hx => numZ_itoa (h2 x hx).1)
    rw [e, join_spl, List.nil_append]
    rfl
theorem rl_of {s : ByteArray} (h : ¬ s = ⟨#[45]⟩) : rlL s = if rlB s = true then numsS s else [] := by
  unfold rlL; rw [if_neg h, nums_eq]
/-- A fitting list's text is short. -/
theorem lens_le (L : List Int) (h : L.all (fun x => inB x (-1000000000000) 1000000000000) = true) : Lib.lens (L.map Lib.itoa) ≤ 21 * L.length := by
  induction L with
  | nil => exact Nat.le_refl _
  | cons x r ih =>
    rw [List.all_cons, Bool.and_eq_true] at h
    have h1 := inB_out h.1
    have h2 := Lib.itoa_length_le x (by omega) (by omega)
    have h3 := ih h.2
    simp only [Lib.lens, List.map_cons, List.sum_cons, List.length_cons] at h3 ⊢
    omega
theorem listZ_size (L : List Int) (h : fitZ L = true) : (Lib.join (L.map Lib.itoa) [44]).length ≤ 1500 := by
  unfold fitZ at h
  rw [Bool.and_eq_true, decide_eq_true_iff] at h
  cases L with
  | nil => exact Nat.zero_le _
  | cons x r =>
    have h2 := lens_le (x :: r) h.2
    rw [List.map_cons] at h2 ⊢
    rw [Lib.join_length]
    have h3 := h.1
    simp at h3 h2 ⊢
    omega
attribute [irreducible] fitZ listZ numsS

end Go.Proofs.YtjmklkhdemolmaaGreatDoor
