/- A text divided at each byte: the specification's split. -/
import Derived.Test.YtjgajablgddkcaaDoorNumS
import Derived.Test.YtjgajablgddkcaaDoorTable
namespace Go.Proofs.YtjgajablgddkcaaDoor
open Go.RowKit Go.Deep
set_option linter.unusedVariables false
set_option maxRecDepth 100000

/-! ### Lists of texts -/
def ts (L : List ByteArray) : Nat → Value := fun i => .string (L.getD i ⟨#[]⟩)
theorem ts_old (L : List ByteArray) (x : ByteArray) {i : Nat} (h : i < L.length) : ts L i = ts (L ++ [x]) i := by simp [ts, List.getElem?_append_left h]
theorem ts_new (L : List ByteArray) (x : ByteArray) : ts (L ++ [x]) L.length = .string x := by simp [ts]
theorem Out.snocS {w : World} {B : Nat} {e : TypeId} {v : Value} {L : List ByteArray} {x : ByteArray} (h : w.ownsRow B e 1 v (L.length + 1) (cellsN (ts L) (L.length * 1) ++ [.string x])) : Out w B e 1 v (L ++ [x]).length (ts (L ++ [x])) := by
  have e1 : cellsN (ts L) (L.length * 1) = cellsN (ts (L ++ [x])) (L.length * 1) := cellsN_congr (fun i hi => ts_old L x (by omega))
  rw [e1] at h
  have := Out.snoc1 h (ts_new L x).symm
  simpa using this
theorem infoT : (Tryd.prog.info? 9).map (fun i => (i.zero, i.size, i.bytes)) = some (some (.string ⟨#[]⟩), 1, 16) := by kernel_rfl

/-- The parts between the bytes b. -/
def spl (b : UInt8) (acc : List UInt8) : List UInt8 → List (List UInt8)
  | [] => [acc]
  | c :: r => if c = b then acc :: spl b [] r else spl b (acc ++ [c]) r
theorem spl_hit (b : UInt8) (acc r : List UInt8) : spl b acc (b :: r) = acc :: spl b [] r := by rw [spl, if_pos rfl]
theorem spl_miss {b c : UInt8} (h : c ≠ b) (acc r : List UInt8) : spl b acc (c :: r) = spl b (acc ++ [c]) r := by rw [spl, if_neg h]
def bsL (l : List UInt8) : ByteArray := ⟨l.toArray⟩
def splB (b : UInt8) (s : ByteArray) : List ByteArray := (spl b [] s.data.toList).map bsL
/-- What is still to come at k, the part under way beginning at f. -/
def splR (b : UInt8) (s : ByteArray) (f k : Nat) : List ByteArray := (spl b ((s.data.toList.drop f).take (k - f)) (s.data.toList.drop k)).map bsL
theorem splR_start (b : UInt8) (s : ByteArray) : splR b s 0 0 = splB b s := by unfold splR splB; rw [Nat.sub_self, List.take_zero]; rfl
theorem extract_list (s : ByteArray) (f k : Nat) : s.extract f k = bsL ((s.data.toList.drop f).take (k - f)) := by
  apply ByteArray.ext
  apply Array.ext'
  show (s.extract f k).data.toList = ((s.data.toList.drop f).take (k - f)).toArray.toList
  rw [ByteArray.data_extract, Array.toList_extract, List.extract_eq_take_drop]
theorem drop_list {s : ByteArray} {k : Nat} (hk : k < s.size) : ∃ c : UInt8, (c.toNat : Int) = byt s k ∧ s.data.toList.drop k = c :: s.data.toList.drop (k + 1) := by
  obtain ⟨c, h1, h2⟩ := byt_list hk
  refine ⟨c, h2, ?_⟩
  have hl : k < s.data.toList.length := by rw [size_list]; exact hk
  rw [List.drop_eq_getElem_cons hl]
  rw [List.getElem?_eq_getElem hl] at h1
  injection h1 with h1
  rw [h1]
theorem splR_hit {b : UInt8} {s : ByteArray} {f k : Nat} (hk : k < s.size) (h : byt s k = (b.toNat : Int)) : splR b s f k = s.extract f k :: splR b s (k + 1) (k + 1) := by
  obtain ⟨c, h1, h2⟩ := drop_list hk
  have : c = b := UInt8.toNat_inj.1 (by omega)
  subst this
  unfold splR
  rw [h2, spl_hit, List.map_cons, Nat.sub_self, List.take_zero, extract_list]
theorem splR_miss {b : UInt8} {s : ByteArray} {f k : Nat} (hf : f ≤ k) (hk : k < s.size) (h : byt s k ≠ (b.toNat : Int)) : splR b s f k = splR b s f (k + 1) := by
  obtain ⟨c, h1, h2⟩ := drop_list hk
  obtain ⟨c', h3, h4⟩ := take_step hf hk
  have : c' = c := UInt8.toNat_inj.1 (by omega)
  subst this
  unfold splR
  rw [h2, h4, spl_miss (fun e => h (by rw [← e]; omega))]
theorem splR_end (b : UInt8) (s : ByteArray) (f : Nat) : splR b s f s.size = [s.extract f s.size] := by
  unfold splR
  have hn : s.data.toList.drop s.size = [] := List.drop_eq_nil_of_le (by rw [size_list]; exact Nat.le_refl _)
  rw [hn, extract_list]
  rfl
attribute [irreducible] splB splR ts

set_option maxHeartbeats 1600000 in
theorem s_l01Split (s : ByteArray) (b : UInt8) (bv : Int) (hb : bv = (b.toNat : Int)) (W : World) (hs : s.size ≤ 1048576) : Calls Tryd.prog 28 #[.string s, .int .u8 bv] W fun e W' => ∃ g, e = .returned g ∧ Below W.heap.size W W' ∧ Out W' W.heap.size 9 1 g (splB b s).length (ts (splB b s)) := by
  obtain ⟨i0, hi, hz0, hz1, hz2⟩ := info_parts infoT
  have HG : Hid (∀ k (h : k < s.size), ((s[k].toNat : Nat) : Int) = byt s k) := fun k h => byt_get h
  have HBd := Lib.hid (byt_bd s)
  have HS := Lib.hid (splR_start b s)
  have HH : Hid (∀ f k, k < s.size → byt s k = bv → splR b s f k = s.extract f k :: splR b s (k + 1) (k + 1)) := fun f k hk h => splR_hit hk (by omega)
  have HM : Hid (∀ f k, f ≤ k → k < s.size → byt s k ≠ bv → splR b s f k = splR b s f (k + 1)) := fun f k hf hk h => splR_miss hf hk (by omega)
  have HE := Lib.hid (splR_end b s)
  clear hb
  generalize splR b s = R at *
  generalize splB b s = RB at *
  go_enter Tryd.func28, Tryd.ntmps28
  go_wp2
  go_loopw [5, 6, 7] (fun u f i wr => ∃ (k j : Nat) (x : Value) (L : List ByteArray), j ≤ k ∧ k ≤ s.size ∧ i = .int .i64 k ∧ f = .int .i64 j ∧ x = u ∧ Below W.heap.size W wr ∧ L.length ≤ k ∧ Hid (L ++ R j k = RB) ∧ Out wr W.heap.size 9 1 x L.length (ts L)) (fun _ _ i _ => s.size - (intOf i).toNat)
  case atStart => exact ⟨0, 0, _, [], Nat.le_refl _, by omega, rfl, rfl, rfl, kept_alloc (Below.refl _ _) _, Nat.le_refl _, HS.out, Out.empty _ _ _ _ _ (Nat.le_refl _)⟩
  case round =>
    obtain ⟨k, j, x, L, hj, hk, rfl, rfl, rfl, hbl, hL, HL, hown⟩ := hrel
    by_cases hlt : k < s.size
    · have gk := HG.out k hlt
      by_cases hc : byt s k = bv
      · have hh := HH.out j k hlt hc
        have HN : Hid ((L ++ [s.extract j k]) ++ R (k + 1) (k + 1) = RB) := by show _ = _; rw [← HL.out, hh]; simp
        clear hh
        go_wp2_with (at_builtin; refine wpList_append_own _ rfl _ _ 57 rfl _ 9 i0 _ 1 16 Tryd.underlying57 hi hz0 hz1 hz2 rfl (by decide) _ _ _ rfl ((hown).row.alloc _) ⟨wr.heap.size, 0, none⟩ 1 1 _ (by rfl) (by rfl) (laid_at (by simp)) (by intro u hu; simp at hu; first | (rcases hu with rfl | rfl <;> rfl) | (subst hu; rfl)) (by simp only [maxLen]; omega) (by omega) (by have hbs := hbl.size; simp at hbs ⊢; omega) ?_; intro v1 w1 hown1 hgrow1 _)
        have R1 := Lib.hid (Out.snocS hown1)
        have R2 := below_of_append hbl hown.row hgrow1
        clear hown hown1 hgrow1 hbl
        try go_wp2
        go_roundw
        case rel => exact ⟨k + 1, k + 1, _, L ++ [s.extract j k], by omega, by omega, by go_num, by go_num, rfl, R2, by simp; omega, HN, R1.out⟩
        case measure => simp [intOf]; omega
      · have hh := HM.out j k hj hlt hc
        have HN : Hid (L ++ R j (k + 1) = RB) := by show _ = _; rw [← HL.out, hh]
        have hc2 : (byt s k == bv) = false := by simpa using hc
        clear hh
        go_wp2
        go_roundw
        case rel => exact ⟨k + 1, j, _, L, by omega, by omega, by go_num, rfl, rfl, hbl, by omega, HN, hown⟩
        case measure => simp [intOf]; omega
    · obtain rfl : k = s.size := by omega
      have HN : Hid (L ++ [s.extract j s.size] = RB) := by show _ = _; rw [← HL.out, HE.out]
      go_wp2_with (at_builtin; refine wpList_append_own _ rfl _ _ 57 rfl _ 9 i0 _ 1 16 Tryd.underlying57 hi hz0 hz1 hz2 rfl (by decide) _ _ _ rfl ((hown).row.alloc _) ⟨wr.heap.size, 0, none⟩ 1 1 _ (by rfl) (by rfl) (laid_at (by simp)) (by intro u hu; simp at hu; first | (rcases hu with rfl | rfl <;> rfl) | (subst hu; rfl)) (by simp only [maxLen]; omega) (by omega) (by have hbs := hbl.size; simp at hbs ⊢; omega) ?_; intro v1 w1 hown1 hgrow1 _)
      have R1 := Out.snocS hown1
      have R2 := below_of_append hbl hown.row hgrow1
      rw [HN.out] at R1
      try go_wp2
      go_ret
      exact ⟨_, rfl, R2, R1⟩

end Go.Proofs.YtjgajablgddkcaaDoor
