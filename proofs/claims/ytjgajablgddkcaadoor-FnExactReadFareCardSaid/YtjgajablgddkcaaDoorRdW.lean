/- A ride read off its text: the two walks. -/
import Derived.Test.YtjgajablgddkcaaDoorRdP
namespace Go.Proofs.YtjgajablgddkcaaDoor
open Go.RowKit Go.Deep
set_option linter.unusedVariables false
set_option maxRecDepth 100000

theorem c_CutL (s : ByteArray) (W : World) (hs : s.size ≤ 1048576) : Calls Tryd.prog 38 #[.string s, .string ⟨#[43]⟩] W fun e W' => ∃ B, e = .returned (.tuple #[.string (bsL (cutA 43 s.data.toList)), .string (bsL (cutB 43 s.data.toList)), .bool B]) ∧ Below W.heap.size W W' := by
  have HI := Lib.hid (fun w => Tryd.stringslite_Index_one s 43 w)
  have h1 := Lib.indexByte_ge s.data.toList 43
  have hl : (⟨#[43]⟩ : ByteArray).size = 1 := rfl
  by_cases h : Lib.indexByte s.data.toList 43 = -1
  · obtain ⟨e1, e2⟩ := cut_none _ h
    rw [e1, e2, bsL_data]
    rw [h] at HI
    clear e1 e2 h h1
    go_enter Tryd.func38, Tryd.ntmps38
    go_wp2_with (go_at_call 54; refine (HI.out _).mono ?_; rintro e w' ⟨rfl, rfl⟩)
    refine bodyPost_ret (results_tmp3 rfl _ _ _) rfl ⟨false, rfl, Below.refl _ _⟩
  · obtain ⟨k, hk⟩ : ∃ k : Nat, Lib.indexByte s.data.toList 43 = (k : Int) := ⟨(Lib.indexByte s.data.toList 43).toNat, by omega⟩
    obtain ⟨e1, e2, e3⟩ := cut_some _ k hk
    rw [size_list] at e3
    have x1 : bsL (cutA 43 s.data.toList) = s.extract 0 k := by rw [e1, extract_list, List.drop_zero, Nat.sub_zero]
    have x2 : bsL (cutB 43 s.data.toList) = s.extract (k + 1) s.size := by rw [e2, extract_list, List.take_of_length_le (by simp)]
    rw [x1, x2]
    rw [hk] at HI
    clear e1 e2 h h1 hk x1 x2
    go_enter Tryd.func38, Tryd.ntmps38
    go_wp2_with (go_at_call 54; refine (HI.out _).mono ?_; rintro e w' ⟨rfl, rfl⟩)
    go_quiet (fail)
    go_wp2_with fail
    refine bodyPost_ret (results_tmp3 rfl _ _ _) rfl ⟨true, rfl, (by repeat (first | assumption | exact Below.refl _ _ | refine kept_drew ?_ | refine kept_drewN ?_ _ | refine kept_alloc ?_ _ | refine kept_set ?_ ?_ _ | (simp; done) | (simp; omega) | refine kept_trans ?_ (by assumption)))⟩

theorem c_Cut (s : ByteArray) (W : World) (hs : s.size ≤ 1048576) : Calls Tryd.prog 21 #[.string s, .string ⟨#[43]⟩] W fun e W' => ∃ B, e = .returned (.tuple #[.string (bsL (cutA 43 s.data.toList)), .string (bsL (cutB 43 s.data.toList)), .bool B]) ∧ Below W.heap.size W W' := by
  have HC := Lib.hid (fun w => c_CutL s w hs)
  generalize bsL (cutA 43 s.data.toList) = A at *
  generalize bsL (cutB 43 s.data.toList) = D at *
  go_enter Tryd.func21, Tryd.ntmps21
  go_wp2_with (go_at_call 38; refine (HC.out _).mono ?_; rintro e w' ⟨B, rfl, hb1⟩)
  refine bodyPost_ret (results_tmp3 rfl _ _ _) rfl ⟨B, rfl, hb1⟩

theorem twoL_no {p : List (List UInt8)} (h : p.length ≠ 2) : twoL p = (0, 0, false) := by
  unfold twoL
  split
  · exact absurd rfl h
  · rfl
theorem twoL_yes (x y : List UInt8) : twoL [x, y] = (numV x, numV y, numB x && numB y) := by unfold twoL; rfl
theorem two_form {p : List (List UInt8)} (h : p.length = 2) : ∃ x y, p = [x, y] := by
  match p, h with
  | [x, y], _ => exact ⟨x, y, rfl⟩
theorem bsL_size (l : List UInt8) : (bsL l).size = l.length := by simp [bsL, ByteArray.size]
theorem ts_two0 (x y : ByteArray) : ts [x, y] 0 = .string x := by unfold ts; rfl
theorem ts_two1 (x y : ByteArray) : ts [x, y] 1 = .string y := by unfold ts; rfl
theorem splB_len (b : UInt8) (s : ByteArray) : (splB b s).length = (spl b [] s.data.toList).length := by unfold splB; simp

set_option maxHeartbeats 400000 in
theorem s_l03Two (s : ByteArray) (b : UInt8) (bv : Int) (hb : bv = (b.toNat : Int)) (W : World) (hs : s.size ≤ 1048576) : Calls Tryd.prog 19 #[.string s, .int .u8 bv] W fun e W' => e = .returned (.tuple #[.int .i64 (twoL (spl b [] s.data.toList)).1, .int .i64 (twoL (spl b [] s.data.toList)).2.1, .bool (twoL (spl b [] s.data.toList)).2.2]) ∧ Below W.heap.size W W' := by
  have HS := s_l01Split s b bv hb W hs
  clear hb
  by_cases h : (spl b [] s.data.toList).length = 2
  · obtain ⟨x, y, h⟩ := two_form h
    obtain ⟨u, h1, h2, -, -⟩ := spl_two _ _ _ _ h
    have hl : x.length ≤ 1048576 ∧ y.length ≤ 1048576 := by
      have e := congrArg List.length h2
      rw [size_list] at e
      rw [List.nil_append] at h1
      subst h1
      simp at e
      omega
    have HN : Hid (∀ z : ByteArray, z.size ≤ 1048576 → ∀ w, Calls Tryd.prog 35 #[.string z] w fun e W' => e = .returned (.tuple #[.int .i64 (numV z.data.toList), .bool (numB z.data.toList)]) ∧ w = W') := fun z hz w => s_l01Number z w (by omega)
    have hX : (bsL x).size ≤ 1048576 := by rw [bsL_size]; exact hl.1
    have hY : (bsL y).size ≤ 1048576 := by rw [bsL_size]; exact hl.2
    have ex : numV x = numV (bsL x).data.toList ∧ numB x = numB (bsL x).data.toList := ⟨rfl, rfl⟩
    have ey : numV y = numV (bsL y).data.toList ∧ numB y = numB (bsL y).data.toList := ⟨rfl, rfl⟩
    have HSP : Hid (Calls Tryd.prog 28 #[.string s, .int .u8 bv] W fun e W' => ∃ g cap, e = .returned (.slice (some ⟨g, 0, none⟩) 2 cap) ∧ Below W.heap.size W W' ∧ W'.cell? ⟨g, 0, none⟩ = some (.string (bsL x)) ∧ W'.cell? ⟨g, 1, none⟩ = some (.string (bsL y))) := by
      have e : splB b s = [bsL x, bsL y] := by unfold splB; rw [h]; rfl
      rw [e] at HS
      refine HS.mono ?_
      rintro e w ⟨g, rfl, hb1, ho⟩
      obtain ⟨g, cap, rfl, -, hr⟩ := ho.opened (by simp)
      have c0 := hr.cell (i := 0) (by simp)
      have c1 := hr.cell (i := 1) (by simp)
      rw [ts_two0] at c0
      rw [ts_two1] at c1
      exact ⟨g, cap, rfl, hb1, c0, c1⟩
    rw [h, twoL_yes, ex.1, ex.2, ey.1, ey.2]
    clear h h1 h2 hl HS ex ey
    generalize bsL x = X at *
    generalize bsL y = Y at *
    generalize hnV : (fun z : ByteArray => numV z.data.toList) = nV
    generalize hnB : (fun z : ByteArray => numB z.data.toList) = nB
    have HN2 : Hid (∀ z : ByteArray, z.size ≤ 1048576 → ∀ w, Calls Tryd.prog 35 #[.string z] w fun e W' => e = .returned (.tuple #[.int .i64 (nV z), .bool (nB z)]) ∧ w = W') := by subst hnV; subst hnB; exact HN
    have gx : numV X.data.toList = nV X ∧ numB X.data.toList = nB X ∧ numV Y.data.toList = nV Y ∧ numB Y.data.toList = nB Y := by subst hnV; subst hnB; exact ⟨rfl, rfl, rfl, rfl⟩
    rw [gx.1, gx.2.1, gx.2.2.1, gx.2.2.2]
    clear gx hnV hnB HN
    cases hbx : nB X
    all_goals
      go_enter Tryd.func19, Tryd.ntmps19
      go_wp2_with (first | (go_at_call 28; refine HSP.out.mono ?_; rintro e w1 ⟨g, cap, rfl, hb1, c0, c1⟩) | (go_at_call 35; refine (HN2.out _ (by assumption) _).mono ?_; rintro e w2 ⟨rfl, rfl⟩))
      refine bodyPost_ret (results_tmp3 rfl _ _ _) rfl ⟨rfl, hb1⟩
  · rw [twoL_no h]
    have HSP : Hid (Calls Tryd.prog 28 #[.string s, .int .u8 bv] W fun e W' => ∃ (ao : Option Addr) (n cap : Nat), e = .returned (.slice ao n cap) ∧ ((n : Int) == 2) = false ∧ Below W.heap.size W W') := by
      refine HS.mono ?_
      rintro e w ⟨g, rfl, hb1, ho⟩
      obtain ⟨ao, cap, rfl⟩ := ho.formV
      rw [splB_len] at *
      exact ⟨ao, _, cap, rfl, by rw [beq_eq_false_iff_ne]; omega, hb1⟩
    clear HS h
    go_enter Tryd.func19, Tryd.ntmps19
    go_wp2_with (go_at_call 28; refine HSP.out.mono ?_; rintro e w1 ⟨ao, n, cap, rfl, hn2, hb1⟩)
    refine bodyPost_ret (results_tmp3 rfl _ _ _) rfl ⟨rfl, hb1⟩

end Go.Proofs.YtjgajablgddkcaaDoor
