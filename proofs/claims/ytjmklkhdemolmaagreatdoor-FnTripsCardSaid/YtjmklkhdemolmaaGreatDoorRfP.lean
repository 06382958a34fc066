/- A fare's text read: what both readings answer. No program. -/
import Derived.Test.YtjmklkhdemolmaaGreatDoorRlI
import Derived.Test.YtjmklkhdemolmaaGreatDoorFareT
namespace Go.Proofs.YtjmklkhdemolmaaGreatDoor
open Go.RowKit Go.Deep
set_option linter.unusedVariables false
set_option maxRecDepth 100000

theorem rl_false {s : ByteArray} (h : rlB s = false) : rlL s = [] := by
  by_cases hd : s = ⟨#[45]⟩
  · rw [(rl_dash hd).1] at h; cases h
  · rw [rl_of hd, h]; rfl
theorem cutA_ne {b : UInt8} (l : List UInt8) : ∀ c ∈ cutA b l, c ≠ b := by
  induction l with
  | nil => unfold cutA; simp
  | cons x r ih =>
    unfold cutA
    split
    · simp
    · rename_i hx
      intro c hc
      rcases List.mem_cons.1 hc with h | h
      · rw [h]; exact hx
      · exact ih c h
theorem three_form {L : List Int} (h : L.length = 3) : L = [gz L 0, gz L 1, gz L 2] := by
  match L, h with
  | [a, b, c], _ => unfold gz; rfl
theorem itoa_dec {x : Int} (h : 0 ≤ x) : Lib.itoa x = Lib.decDigits x.toNat := by
  have := itoa_pos x.toNat
  rwa [show ((x.toNat : Nat) : Int) = x by omega] at this
theorem ls3 {b c d : Int} (hb : 0 ≤ b) (hc : 0 ≤ c) (hd : 0 ≤ d) : lsS (f3 b c d) 3 = bsL (Lib.join ([b, c, d].map Lib.itoa) [44]) := by
  have h := (lsS_of (f3 b c d) (n := 3) (by omega)).1
  rw [← h]
  have e : ((List.range 3).map fun i => decS (f3 b c d i).toNat).map (·.data.toList) = [b, c, d].map Lib.itoa := by
    have e0 : f3 b c d 0 = b := by unfold f3; rfl
    have e1 : f3 b c d 1 = c := by unfold f3; rfl
    have e2 : f3 b c d 2 = d := by unfold f3; rfl
    show [(decS (f3 b c d 0).toNat).data.toList, (decS (f3 b c d 1).toNat).data.toList, (decS (f3 b c d 2).toNat).data.toList] = [Lib.itoa b, Lib.itoa c, Lib.itoa d]
    rw [e0, e1, e2, itoa_dec hb, itoa_dec hc, itoa_dec hd]
    unfold decS
    rfl
  rw [e]
  rfl
theorem three_text {y : List UInt8} (h3 : (rlL (bsL y)).length = 3) (hb : 0 ≤ gz (rlL (bsL y)) 0) (hc : 0 ≤ gz (rlL (bsL y)) 1) (hd : 0 ≤ gz (rlL (bsL y)) 2) : lsS (f3 (gz (rlL (bsL y)) 0) (gz (rlL (bsL y)) 1) (gz (rlL (bsL y)) 2)) 3 = bsL y := by
  have hB : rlB (bsL y) = true := by
    cases h : rlB (bsL y) with
    | true => rfl
    | false => rw [rl_false h] at h3; simp at h3
  have hd2 : ¬ bsL y = ⟨#[45]⟩ := fun e => by rw [(rl_dash e).2] at h3; simp at h3
  have hl := list_back hd2
  have hr := rl_of hd2
  rw [if_pos hB] at hr
  have ht := hl.2 hB
  rw [← hr] at ht
  rw [ls3 hb hc hd, ← three_form h3]
  cases hf : fitZ (rlL (bsL y)) with
  | true =>
    rw [listZ_yes hf (fun e => by rw [e] at h3; simp at h3)] at ht
    exact ht
  | false =>
    rw [listZ_no hf] at ht
    exfalso
    rw [← ht] at hr
    have : numsS ⟨#[]⟩ = [0] := by unfold numsS; rfl
    rw [← ht, hr, this] at h3
    simp at h3
theorem three_no32 {b c d : Int} (hb : 0 ≤ b) (hc : 0 ≤ c) (hd : 0 ≤ d) : ∀ x ∈ (lsS (f3 b c d) 3).data.toList, x ≠ 32 := by
  rw [ls3 hb hc hd, join_eq]
  show ∀ x ∈ joinB 44 [Lib.itoa b, Lib.itoa c, Lib.itoa d], x ≠ 32
  rw [joinB, joinB, joinB, itoa_dec hb, itoa_dec hc, itoa_dec hd]
  have hg : ∀ n, ∀ x ∈ Lib.decDigits n, x ≠ 32 := fun n x hx e => by
    have := isD_iff.1 (List.all_eq_true.1 (dec_digits n) x hx)
    subst e
    have : (32 : UInt8).toNat = 32 := rfl
    omega
  intro x hx
  simp only [List.mem_append, List.mem_cons] at hx
  rcases hx with h | h | h | h | h
  · exact hg _ x h
  · rw [h]; decide
  · exact hg _ x h
  · rw [h]; decide
  · exact hg _ x h

/-- The name ahead of the first space, and the numbers behind it. -/
def nmA (s : ByteArray) : ByteArray := bsL (cutA 32 s.data.toList)
def nmB (s : ByteArray) : ByteArray := bsL (cutB 32 s.data.toList)
def nmL (s : ByteArray) : List Int := rlL (nmB s)
/-- Whether a text is a fare's. -/
def rfOk (s : ByteArray) : Bool := decide ((nmL s).length = 3) && decide (fareS (nmA s) (gz (nmL s) 0) (gz (nmL s) 1) (gz (nmL s) 2) = s)
theorem nm_two {s : ByteArray} {x y : List UInt8} (h : spl 32 [] s.data.toList = [x, y]) : nmA s = bsL x ∧ nmB s = bsL y := by
  obtain ⟨u, h1, h2, h3, h4⟩ := spl_two _ _ _ _ h
  rw [List.nil_append] at h1
  subst h1
  have hc := cut_at x y h3
  rw [← h2] at hc
  unfold nmA nmB
  rw [hc.1, hc.2]
  exact ⟨rfl, rfl⟩
theorem rf_two {s : ByteArray} (h : (spl 32 [] s.data.toList).length = 2) (h3 : (nmL s).length = 3) : rfOk s = vFa (nmA s) (gz (nmL s) 0) (gz (nmL s) 1) (gz (nmL s) 2) := by
  obtain ⟨x, y, e⟩ := two_form h
  obtain ⟨e1, e2⟩ := nm_two e
  obtain ⟨u, h1, h2, h4, h5⟩ := spl_two _ _ _ _ e
  rw [List.nil_append] at h1
  subst h1
  unfold rfOk
  rw [decide_eq_true h3, Bool.true_and]
  cases hv : vFa (nmA s) (gz (nmL s) 0) (gz (nmL s) 1) (gz (nmL s) 2) with
  | true =>
    have ho := vFa_out hv
    rw [decide_eq_true_iff, fareS_yes hv]
    unfold nmL at h3 ho ⊢
    rw [e2] at h3 ho ⊢
    rw [three_text h3 (by omega) (by omega) (by omega), e1, show (⟨#[32]⟩ : ByteArray) = bsL [32] from rfl, bsL_append, bsL_append]
    have : x ++ [32] ++ y = s.data.toList := by rw [h2]; simp
    rw [this]
    rfl
  | false =>
    rw [decide_eq_false_iff_not, fareS_no hv]
    intro he
    rw [← he] at h
    exact absurd h (by decide)
theorem rf_notwo {s : ByteArray} (h : ¬ (spl 32 [] s.data.toList).length = 2) : rfOk s = false := by
  cases hr : rfOk s with
  | false => rfl
  | true =>
    exfalso
    unfold rfOk at hr
    rw [Bool.and_eq_true, decide_eq_true_iff, decide_eq_true_iff] at hr
    obtain ⟨h3, ht⟩ := hr
    cases hv : vFa (nmA s) (gz (nmL s) 0) (gz (nmL s) 1) (gz (nmL s) 2) with
    | true =>
      have ho := vFa_out hv
      rw [fareS_yes hv, show (⟨#[32]⟩ : ByteArray) = bsL [32] from rfl] at ht
      have hd := congrArg (fun z : ByteArray => z.data.toList) ht
      apply h
      rw [← hd]
      have e : (nmA s ++ bsL [32] ++ lsS (f3 (gz (nmL s) 0) (gz (nmL s) 1) (gz (nmL s) 2)) 3).data.toList = cutA 32 s.data.toList ++ 32 :: (lsS (f3 (gz (nmL s) 0) (gz (nmL s) 1) (gz (nmL s) 2)) 3).data.toList := by
        rw [ByteArray.data_append, ByteArray.data_append]
        unfold nmA
        simp [bsL]
      show (spl 32 [] (nmA s ++ bsL [32] ++ lsS (f3 (gz (nmL s) 0) (gz (nmL s) 1) (gz (nmL s) 2)) 3).data.toList).length = 2
      rw [e, spl_first _ _ _ (cutA_ne _), spl_plain _ _ (three_no32 (by omega) (by omega) (by omega))]
      rfl
    | false =>
      rw [fareS_no hv] at ht
      rw [← ht] at h3
      have : nmL ⟨#[]⟩ = [] := by
        unfold nmL
        refine rl_false ?_
        have e : nmB ⟨#[]⟩ = ⟨#[]⟩ := by unfold nmB; unfold cutB; rfl
        rw [e]
        have hq : rlB ⟨#[]⟩ = true ↔ _ := rl_iff (by decide)
        cases hb : rlB (⟨#[]⟩ : ByteArray) with
        | false => rfl
        | true =>
          have := (hq.1 hb).2 [] (by decide)
          exact absurd this.1 (by decide)
      rw [this] at h3
      simp at h3
theorem nm_size (s : ByteArray) (hs : s.size ≤ 1048576) : (nmA s).size ≤ 1048576 ∧ (nmB s).size ≤ 1048576 := by
  unfold nmA nmB
  rw [bsL_size, bsL_size]
  have h1 := cutA_len 32 s.data.toList
  have h2 := cutB_len 32 s.data.toList
  rw [size_list] at h1 h2
  omega
theorem rf_no {s : ByteArray} (h : ¬ (nmL s).length = 3) : rfOk s = false := by unfold rfOk; rw [decide_eq_false h, Bool.false_and]
theorem rf_text {s : ByteArray} (h : (nmL s).length = 3) : rfOk s = decide (fareS (nmA s) (gz (nmL s) 0) (gz (nmL s) 1) (gz (nmL s) 2) = s) := by unfold rfOk; rw [decide_eq_true h, Bool.true_and]
/-- What is handed back. -/
def rfA (s : ByteArray) : ByteArray := if rfOk s = true then nmA s else ⟨#[]⟩
def rfV (s : ByteArray) (i : Nat) : Int := if rfOk s = true then gz (nmL s) i else 0
theorem rf_hand {s : ByteArray} : (rfOk s = false → rfA s = ⟨#[]⟩ ∧ rfV s 0 = 0 ∧ rfV s 1 = 0 ∧ rfV s 2 = 0) ∧ (rfOk s = true → rfA s = nmA s ∧ rfV s 0 = gz (nmL s) 0 ∧ rfV s 1 = gz (nmL s) 1 ∧ rfV s 2 = gz (nmL s) 2) := by
  unfold rfA rfV
  constructor
  · intro h; rw [h]; exact ⟨rfl, rfl, rfl, rfl⟩
  · intro h; rw [h]; exact ⟨rfl, rfl, rfl, rfl⟩
attribute [irreducible] nmA nmB nmL rfOk rfA rfV

end Go.Proofs.YtjmklkhdemolmaaGreatDoor
