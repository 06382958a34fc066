/- The text of a list of numbers: the reference and the program. -/
import Derived.Test.YtjmklkhdemolmaaGreatDoorDec
import Derived.Test.YtjmklkhdemolmaaGreatDoorMrgB
import Derived.Test.YtjmklkhdemolmaaGreatDoorFuncs
import Derived.Lib.Join
namespace Go.Proofs.YtjmklkhdemolmaaGreatDoor
open Go.RowKit Go.Deep
set_option linter.unusedVariables false
set_option maxRecDepth 100000

theorem infoStrL : (Tryz.prog.info? 9).map (fun i => (i.zero, i.size, i.bytes)) = some (some (.string ⟨#[]⟩), 1, 16) := by kernel_rfl
/-- The text of the first k numbers. -/
def lsS (z : Nat → Int) : Nat → ByteArray
  | 0 => ⟨#[]⟩
  | k + 1 => (if k = 0 then ⟨#[]⟩ else lsS z k ++ ⟨#[44]⟩) ++ decS (z k).toNat
theorem lsS_zero (z : Nat → Int) : lsS z 0 = ⟨#[]⟩ := rfl
theorem lsS_one (z : Nat → Int) : lsS z 1 = ⟨#[]⟩ ++ decS (z 0).toNat := rfl
theorem lsS_succ {z : Nat → Int} {k : Nat} (h : 0 < k) : lsS z (k + 1) = lsS z k ++ ⟨#[44]⟩ ++ decS (z k).toNat := by
  simp only [lsS]; rw [if_neg (by omega)]
theorem lsS_size {z : Nat → Int} {n : Nat} (h : ∀ i, i < n → 0 ≤ z i ∧ z i ≤ 1000000000) : ∀ k, k ≤ n → (lsS z k).size ≤ 22 * k
  | 0, _ => by rw [lsS_zero]; exact Nat.le_refl _
  | k + 1, hk => by
    have h1 := lsS_size h k (by omega)
    have h2 := h k (by omega)
    have h3 := decS_size (n := (z k).toNat) (by omega)
    by_cases h0 : k = 0
    · subst h0
      rw [lsS_one, ByteArray.size_append]
      show 0 + _ ≤ _
      omega
    · rw [lsS_succ (by omega), ByteArray.size_append, ByteArray.size_append]
      show (lsS z k).size + 1 + _ ≤ _
      omega
theorem join_snoc (x : List UInt8) (r : List (List UInt8)) (y sep : List UInt8) : Lib.join (x :: r ++ [y]) sep = Lib.join (x :: r) sep ++ sep ++ y := by
  rw [List.cons_append, Lib.join_cons, Lib.join_cons]
  simp [Lib.joinTail]
theorem lsS_join (z : Nat → Int) : ∀ n, Lib.join ((List.range (n + 1)).map fun i => (decS (z i).toNat).data.toList) [44] = (lsS z (n + 1)).data.toList
  | 0 => by
    show Lib.join [(decS (z 0).toNat).data.toList] [44] = _
    rw [Lib.join_one, lsS_one]
    simp
  | n + 1 => by
    have ih := lsS_join z n
    rw [List.range_succ, List.map_append]
    have hne : ∃ x r, (List.range (n + 1)).map (fun i => (decS (z i).toNat).data.toList) = x :: r := by
      rw [List.range_succ_eq_map]; exact ⟨_, _, rfl⟩
    obtain ⟨x, r, hxr⟩ := hne
    rw [hxr] at ih ⊢
    show Lib.join (x :: r ++ [(decS (z (n + 1)).toNat).data.toList]) [44] = _
    rw [join_snoc, ih, lsS_succ (z := z) (k := n + 1) (by omega)]
    simp
theorem lsS_of (z : Nat → Int) {n : Nat} (hn : 1 ≤ n) : (⟨(Lib.join (((List.range n).map fun i => decS (z i).toNat).map (·.data.toList)) [44]).toArray⟩ : ByteArray) = lsS z n ∧ (Lib.join (((List.range n).map fun i => decS (z i).toNat).map (·.data.toList)) [44]).length = (lsS z n).size := by
  obtain ⟨m, rfl⟩ : ∃ m, n = m + 1 := ⟨n - 1, by omega⟩
  have h := lsS_join z m
  have e : ((List.range (m + 1)).map fun i => decS (z i).toNat).map (·.data.toList) = (List.range (m + 1)).map fun i => (decS (z i).toNat).data.toList := by rw [List.map_map]; rfl
  rw [e, h]
  exact ⟨rfl, by show (lsS z (m + 1)).data.toList.length = (lsS z (m + 1)).data.size; simp⟩
attribute [irreducible] lsS

set_option maxHeartbeats 800000 in
theorem s_l01List (v : Value) (n : Nat) (z : Nat → Int) (W : World) (hs : Sl W v 1 n (ic z)) (h1 : 1 ≤ n) (h64 : n ≤ 64) (HZ : Hid (∀ i, i < n → 0 ≤ z i ∧ z i ≤ 1000000000)) : Calls Tryz.prog 44 #[v] W fun e W' => e = .returned (.string (lsS z n)) ∧ Below W.heap.size W W' := by
  obtain ⟨hn, ao, cap, rfl, hr⟩ := hs
  have LO := Lib.hid (lsS_one z)
  have LZ := Lib.hid (lsS_zero z)
  have LS := Lib.hid (fun (k : Nat) (h : 0 < k) => lsS_succ (z := z) h)
  have LB := Lib.hid (lsS_size HZ.out)
  have hc : (⟨#[44]⟩ : ByteArray).size = 1 := rfl
  have he : (⟨#[]⟩ : ByteArray).size = 0 := rfl
  rcases hr with h0 | ⟨g, off, rfl, hr⟩
  · omega
  generalize lsS z = ls at *
  have hn0 : ¬ (n : Int) = 0 := by omega
  go_enter Tryz.func44, Tryz.ntmps44
  go_wp2
  generalize ((n : Int) == 0) = q0
  clear hn0
  go_loopw [3, 4] (fun o i wr => ∃ k : Nat, k ≤ n ∧ i = .int .i64 k ∧ o = .string (ls k) ∧ Below W.heap.size W wr) (fun _ i _ => n - (intOf i).toNat)
  case atStart => exact ⟨0, by omega, rfl, by rw [LZ.out], Below.refl _ _⟩
  case round =>
    obtain ⟨k, hk, rfl, rfl, hb⟩ := hrel
    by_cases hlt : k < n
    · have hcell := (hr.kept hb).cell (i := k) (by omega)
      simp only [ic] at hcell
      have hz := HZ.out k hlt
      have HD := Lib.hid (fun w => s_DecInt (z k) hz w)
      have hds := decS_size (n := (z k).toNat) (by omega)
      have hls := LB.out k hk
      clear hr
      rcases (show k = 0 ∨ 0 < k by omega) with h0 | h0
      · subst h0
        have HN : Hid (ls (0 + 1) = ⟨#[]⟩ ++ decS (z 0).toNat) := LO.out
        rw [LZ.out]
        rw [show ((0 : Nat) : Int) = 0 from rfl]
        rw [Nat.add_zero] at hcell
        go_wp2_with (go_at_call 34; refine (HD.out _).mono ?_; rintro e x1 ⟨rfl, hbx1⟩)
        go_roundw
        case rel => exact ⟨0 + 1, by omega, by go_num, by rw [HN.out], kept_trans hb hbx1⟩
        case measure => simp [intOf]; omega
      · have HN : Hid (ls (k + 1) = ls k ++ ⟨#[44]⟩ ++ decS (z k).toNat) := LS.out k h0
        have h0' : (0 : Int) < (k : Int) := by omega
        have hls2 : (ls k ++ ⟨#[44]⟩).size ≤ 22 * k + 1 := by rw [ByteArray.size_append]; omega
        go_wp2_with (go_at_call 34; refine (HD.out _).mono ?_; rintro e x1 ⟨rfl, hbx1⟩)
        go_roundw
        case rel => exact ⟨k + 1, by omega, by go_num, by rw [HN.out], kept_trans hb hbx1⟩
        case measure => simp [intOf]; omega
    · obtain rfl : k = n := by omega
      clear hr
      go_wp2
      go_ret
      exact ⟨rfl, hb⟩

theorem listClosure (x : Int) (hx : 0 ≤ x ∧ x ≤ 1000000000) (W : World) : Calls Tryz.prog 50 #[.int .i64 x] W fun e W' => e = .returned (.bool false) ∧ Below W.heap.size W W' := by
  have HV := Lib.hid (fun w => i_isValue x w)
  rw [inB_yes (by omega) (by omega)] at HV
  go_enter Tryz.func50, Tryz.ntmps50
  go_wp2_with (go_at_call 51; refine (HV.out _).mono ?_; rintro e w' ⟨rfl, rfl⟩)
  go_ret
  exact ⟨rfl, Below.refl _ _⟩

set_option maxHeartbeats 1600000 in
theorem i_ListText (v : Value) (n : Nat) (z : Nat → Int) (W : World) (hs : Sl W v 1 n (ic z)) (h1 : 1 ≤ n) (h64 : n ≤ 64) (HZ : Hid (∀ i, i < n → 0 ≤ z i ∧ z i ≤ 1000000000)) (htab : Tab10 W) : Calls Tryz.prog 32 #[v] W fun e W' => e = .returned (.string (lsS z n)) ∧ Below W.heap.size W W' := by
  obtain ⟨i0, hi, hz0, hz1, hz2⟩ := info_parts infoStrL
  have hcf := containsFunc_ints 50 #[] (fun _ => false) v n z W hs ⟨enters Tryz.func50 (by kernel_rfl) rfl, fun i hi w _ => listClosure (z i) (HZ.out i hi) w⟩
  rw [allTo_yes (p := fun i => !false) (n := n) (fun i hi => rfl)] at hcf
  have HCF := Lib.hid hcf
  clear hcf
  have LOF := Lib.hid (lsS_of z h1)
  have LB := Lib.hid (lsS_size (n := n) (z := z) (fun i hi => by have := HZ.out i hi; omega) n (Nat.le_refl _))
  obtain ⟨hn, ao, cap, rfl, hr⟩ := hs
  rcases hr with h0 | ⟨g, off, rfl, hr⟩
  · omega
  generalize lsS z n = res at *
  have hn0 : ¬ (n : Int) = 0 := by omega
  go_enter Tryz.func32, Tryz.ntmps32
  go_wp2_with (go_at_call 49; refine HCF.out.mono ?_; rintro e w1 ⟨rfl, hb1⟩)
  generalize ((n : Int) == 0) = q0
  clear hn0
  go_loopw [3, 18] (fun u i wr => ∃ (k : Nat) (y : Value), k ≤ n ∧ i = .int .i64 k ∧ y = u ∧ Below W.heap.size W wr ∧ Out wr W.heap.size 9 1 y k (sc fun i => decS (z i).toNat)) (fun _ i _ => n - (intOf i).toNat)
  case atStart => exact ⟨0, _, by omega, rfl, rfl, hb1, Out.nil _ _ _ _ _⟩
  case round =>
    clear hb1
    obtain ⟨k, y, hk, rfl, rfl, hb, hown⟩ := hrel
    by_cases hlt : k < n
    · have hcell := (hr.kept hb).cell (i := k) (by omega)
      simp only [ic] at hcell
      have hz := HZ.out k hlt
      have HD := Lib.hid (i_DecInt (z k) (by omega) wr (htab.kept hb))
      clear hr
      go_wp2_with (first | (at_builtin; refine wpList_append_own _ rfl _ _ 28 rfl _ 9 i0 _ 1 16 Tryz.underlying28 hi hz0 hz1 hz2 rfl (by decide) _ _ _ rfl ((hownA).row.alloc _) ⟨x1.heap.size, 0, none⟩ 1 1 _ (by rfl) (by rfl) (laid_at (by simp)) (by intro u hu; simp at hu; first | (rcases hu with rfl | rfl <;> rfl) | (subst hu; rfl)) (by simp only [maxLen]; omega) (by omega) (by have hbs := hbA.size; simp at hbs ⊢; omega) ?_; intro v1 w1 hown1 hgrow1 _) | (go_at_call 52; refine HD.out.mono ?_; rintro e x1 ⟨rfl, hbx1⟩; have hownA := hown.kept hbx1; have hbA := kept_trans hb hbx1))
      have R1 := Lib.hid (Out.snoc1 hown1 rfl)
      have R2 := below_of_append hbA hownA.row hgrow1
      clear hown hownA hown1 hgrow1 hb
      try go_wp2
      go_roundw
      case rel => exact ⟨k + 1, _, by omega, by go_num, rfl, R2, R1.out⟩
      case measure => simp [intOf]; omega
    · obtain rfl : k = n := by omega
      clear hr
      obtain ⟨bk, cp, rfl, hbk, hrow⟩ := hown.opened (by omega)
      have hcp : k ≤ cp := by
        rcases hown.2 with ⟨h0, -⟩ | ⟨gg, cc, cur, h0, -, -, hnc, -⟩
        · simp at h0
        · simp at h0
          omega
      have HJ := Lib.hid (Tryz.strings_Join bk 0 cp ((List.range k).map fun i => decS (z i).toNat) ⟨#[44]⟩ wr (fun j x hj => by
        have hjk : j < k := by
          have := (List.getElem?_eq_some_iff.1 hj).1
          simpa using this
        have hx : x = decS (z j).toNat := by
          rw [List.getElem?_map, List.getElem?_range hjk] at hj
          simpa using hj.symm
        subst hx
        exact hrow.cell (i := j) (by omega)) hrow.1 (by simp; omega) (by simpa using hcp) (by
          have := LOF.out.2
          have hlb := LB.out
          have e : (⟨#[44]⟩ : ByteArray).data.toList = [44] := rfl
          rw [e, this]; omega))
      rw [show (⟨#[44]⟩ : ByteArray).data.toList = [44] from rfl, LOF.out.1, show ((List.range k).map fun i => decS (z i).toNat).length = k by simp] at HJ
      clear hown hrow LOF
      go_wp2_with (go_at_call 53; refine HJ.out.mono ?_; rintro e x2 ⟨rfl, hbx2⟩)
      go_ret
      exact ⟨rfl, kept_trans hb hbx2⟩

end Go.Proofs.YtjmklkhdemolmaaGreatDoor
