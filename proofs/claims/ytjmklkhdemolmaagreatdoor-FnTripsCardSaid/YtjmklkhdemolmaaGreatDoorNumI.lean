/- A number read in decimal: the program. -/
import Derived.Test.YtjmklkhdemolmaaGreatDoorNumP
import Derived.Test.YtjmklkhdemolmaaGreatDoorDec
import Derived.Lib.SmallJoins
namespace Go.Proofs.YtjmklkhdemolmaaGreatDoor
open Go.RowKit Go.Deep
set_option linter.unusedVariables false
set_option maxRecDepth 100000

/-- The variable strconv.ErrSyntax holds an error, here and later. -/
def ErrS (W : World) : Prop := ∃ tp p, W.var? Tryz.prog "strconv.ErrSyntax" = some #[.iface tp p]
theorem ErrS.kept {w w' : World} (h : ErrS w) (hb : Below w.heap.size w w') : ErrS w' := by
  obtain ⟨tp, p, h⟩ := h
  exact ⟨tp, p, Joins.var_stays (g := (Tryz.prog.globalNamed "strconv.ErrSyntax").getD 0) (by kernel_rfl) h hb (Nat.le_refl _)⟩
attribute [irreducible] ErrS

theorem neq_lists {a b : ByteArray} (h : ¬ a = b) : (a.toList == b.toList) = false := by
  cases e : (a.toList == b.toList) with
  | false => rfl
  | true =>
    exfalso
    apply h
    have h1 : a.toList = b.toList := by simpa using e
    rw [ByteArray.toList_eq, ByteArray.toList_eq] at h1
    cases a; cases b
    simp at h1
    rw [h1]
theorem trim_dOf (l : List UInt8) : Lib.trimPrefix l [45] = dOf l := by
  unfold Lib.trimPrefix dOf Lib.hasPrefix
  cases l with
  | nil => rfl
  | cons c r =>
    by_cases h : c = 45
    · subst h; rfl
    · have h1 : (45 == c) = false := by simpa using fun e => h e.symm
      simp [List.isPrefixOf, h1, h]

theorem parseInt_ok (s : ByteArray) (hs : s.size ≤ 1048576) (v : Int) (h : Lib.parseIntB 64 s.data.toList = .ok v) (w : World) : Calls Tryz.prog 68 #[.string s, .int .i64 10, .int .i64 64] w fun e w' => e = .returned (.tuple #[.int .i64 v, .nilIface]) ∧ Below w.heap.size w w' := by
  refine (Tryz.strconv_ParseInt_10_at64_ok s (by omega) v h w).mono ?_
  rintro e w' ⟨rfl, rfl | ⟨t, rfl⟩⟩
  · exact ⟨rfl, Below.refl _ _⟩
  · exact ⟨rfl, rfl, rfl, rfl, by rw [Lib.bytesWorld_size]; omega, fun j hj => Lib.bytesWorld_at_old w _ t j hj⟩
theorem parseInt_no (s : ByteArray) (hs : s.size ≤ 1048576) (h : Lib.parseIntB 64 s.data.toList = .«syntax») (w : World) (he : ErrS w) : Calls Tryz.prog 68 #[.string s, .int .i64 10, .int .i64 64] w fun e w' => ∃ N t, e = .returned (.tuple #[.int .i64 0, .iface t (.pointer (some ⟨N, 0, none⟩))]) ∧ Below w.heap.size w w' := by
  unfold ErrS at he
  obtain ⟨tp, p, he⟩ := he
  refine (Tryz.strconv_ParseInt_10_at64_syntax_var s (by omega) h tp p w he).mono ?_
  rintro e w' ⟨N, rfl, -, -, hb⟩
  exact ⟨N, _, rfl, hb⟩
theorem i_DecZ (n : Int) (hn : -1000000000000000000 < n ∧ n < 1000000000000000000) (W : World) (h : Tab10 W) : Calls Tryz.prog 52 #[.int .i64 n] W fun e W' => e = .returned (.string ⟨(Lib.itoa n).toArray⟩) ∧ Below W.heap.size W W' := by
  have ht : Lib.TabIs Tryz.prog W "internal/strconv.uint64pow10" .u64 Lib.pow10Tab := by unfold Tab10 at h; exact h
  have HF := Lib.hid (Tryz.strconv_FormatInt_10 n (by omega) (by omega) W ht)
  generalize Lib.itoa n = t at *
  go_enter Tryz.func52, Tryz.ntmps52
  go_wp2_with (go_at_call 59; refine HF.out.mono ?_; rintro e w1 ⟨rfl, k, os, rfl⟩)
  go_ret
  exact ⟨rfl, Lib.below_grow _ _ (Nat.le_refl _) _ _⟩

/-- What a text says: the number and whether there is one. -/
def numV (l : List UInt8) : Int := (numL l).getD 0
def numB (l : List UInt8) : Bool := (numL l).isSome
theorem numL_long {l : List UInt8} (h : dOf l = [] ∨ 18 < (dOf l).length) : numL l = none := by
  unfold numL; rw [if_neg]; rintro ⟨h1, h2, -⟩
  rcases h with h | h
  · exact h1 h
  · omega

theorem i_ReadDecimal (s : ByteArray) (W : World) (hs : s.size ≤ 1048576) (htab : Tab10 W) (herr : ErrS W) : Calls Tryz.prog 57 #[.string s] W fun e W' => e = .returned (.tuple #[.int .i64 (numV s.data.toList), .bool (numB s.data.toList)]) ∧ Below W.heap.size W W' := by
  have HTP : Hid (Calls Tryz.prog 67 #[.string s, .string ⟨#[45]⟩] W fun e w' => e = .returned (.string ⟨(dOf s.data.toList).toArray⟩) ∧ W = w') := by
    refine (Tryz.strings_TrimPrefix s ⟨#[45]⟩ W).mono ?_
    rintro e w' ⟨rfl, rfl⟩
    exact ⟨by rw [show (⟨#[45]⟩ : ByteArray).data.toList = [45] from rfl, trim_dOf], rfl⟩
  have hsz : (⟨(dOf s.data.toList).toArray⟩ : ByteArray).size = (dOf s.data.toList).length := rfl
  by_cases hlen : dOf s.data.toList = [] ∨ 18 < (dOf s.data.toList).length
  · have hN := Lib.hid (numL_long hlen)
    have hl : (dOf s.data.toList).length < 1 ∨ 18 < (dOf s.data.toList).length := by
      rcases hlen with h | h
      · left; rw [h]; simp
      · exact .inr h
    rw [← hsz] at hl
    clear hlen hsz
    have hm : (⟨(dOf s.data.toList).toArray⟩ : ByteArray).size ≤ 1048576 := by
      show (dOf s.data.toList).length ≤ _
      have h1 : (dOf s.data.toList).length ≤ s.data.toList.length := by unfold dOf; split <;> simp
      have h2 : s.data.toList.length = s.size := by simp
      omega
    generalize (⟨(dOf s.data.toList).toArray⟩ : ByteArray) = D at *
    have hv : Hid (numV s.data.toList = 0 ∧ numB s.data.toList = false) := by unfold numV numB; rw [hN.out]; exact ⟨rfl, rfl⟩
    rcases hl with hl | hl
    all_goals
      go_enter Tryz.func57, Tryz.ntmps57
      go_wp2_with (go_at_call 67; refine HTP.out.mono ?_; rintro e w1 ⟨rfl, rfl⟩)
      go_ret2
      exact ⟨by rw [hv.out.1, hv.out.2]; rfl, Below.refl _ _⟩
  · have h1 : dOf s.data.toList ≠ [] := fun h => hlen (.inl h)
    have h2 : (dOf s.data.toList).length ≤ 18 := by omega
    have h3 : 1 ≤ (dOf s.data.toList).length := List.length_pos_iff.2 h1
    have HRN := read_num s.data.toList h1 h2
    rw [← hsz] at h2 h3
    clear hlen hsz h1
    generalize (⟨(dOf s.data.toList).toArray⟩ : ByteArray) = D at *
    have HTB := Lib.hid htab
    rcases HRN with ⟨n, hN, hp, hi, hn1, hn2⟩ | ⟨hN, hp⟩ | ⟨n, hN, hp, hi, hn1, hn2⟩
    · have hv : Hid (numV s.data.toList = n ∧ numB s.data.toList = true) := by unfold numV numB; rw [hN]; exact ⟨rfl, rfl⟩
      have HP := Lib.hid (fun w => parseInt_ok s hs n hp w)
      have HZ := Lib.hid (fun w h => i_DecZ n ⟨hn1, hn2⟩ w h)
      have e : (⟨(Lib.itoa n).toArray⟩ : ByteArray) = s := by rw [hi]
      rw [e] at HZ
      clear e hN hp hi htab herr
      go_enter Tryz.func57, Tryz.ntmps57
      go_wp2_with (first | (go_at_call 67; refine HTP.out.mono ?_; rintro e w1 ⟨rfl, rfl⟩) | (go_at_call 68; refine (HP.out _).mono ?_; rintro e w2 ⟨rfl, hb2⟩) | (go_at_call 52; refine (HZ.out _ (HTB.out.kept hb2)).mono ?_; rintro e w3 ⟨rfl, hb3⟩))
      go_ret2
      exact ⟨by rw [hv.out.1, hv.out.2]; rfl, kept_trans hb2 hb3⟩
    · have hv : Hid (numV s.data.toList = 0 ∧ numB s.data.toList = false) := by unfold numV numB; rw [hN]; exact ⟨rfl, rfl⟩
      have HP := Lib.hid (fun w he => parseInt_no s hs hp w he)
      have HE := Lib.hid herr
      clear hN hp htab herr
      go_enter Tryz.func57, Tryz.ntmps57
      go_wp2_with (first | (go_at_call 67; refine HTP.out.mono ?_; rintro e w1 ⟨rfl, rfl⟩) | (go_at_call 68; refine (HP.out _ HE.out).mono ?_; rintro e w2 ⟨N2, t2, rfl, hb2⟩))
      go_ret2
      exact ⟨by rw [hv.out.1, hv.out.2]; rfl, hb2⟩
    · have hv : Hid (numV s.data.toList = 0 ∧ numB s.data.toList = false) := by unfold numV numB; rw [hN]; exact ⟨rfl, rfl⟩
      have HP := Lib.hid (fun w => parseInt_ok s hs n hp w)
      have HZ := Lib.hid (fun w h => i_DecZ n ⟨hn1, hn2⟩ w h)
      have hne : ¬ (⟨(Lib.itoa n).toArray⟩ : ByteArray) = s := fun e => hi (by rw [← e])
      generalize (⟨(Lib.itoa n).toArray⟩ : ByteArray) = T at *
      have hne2 : (T.toList == s.toList) = false := neq_lists hne
      clear hne
      clear hN hp hi htab herr
      go_enter Tryz.func57, Tryz.ntmps57
      go_wp2_with (first | (go_at_call 67; refine HTP.out.mono ?_; rintro e w1 ⟨rfl, rfl⟩) | (go_at_call 68; refine (HP.out _).mono ?_; rintro e w2 ⟨rfl, hb2⟩) | (go_at_call 52; refine (HZ.out _ (HTB.out.kept hb2)).mono ?_; rintro e w3 ⟨rfl, hb3⟩))
      go_ret2
      exact ⟨by rw [hv.out.1, hv.out.2]; rfl, kept_trans hb2 hb3⟩

end Go.Proofs.YtjmklkhdemolmaaGreatDoor
