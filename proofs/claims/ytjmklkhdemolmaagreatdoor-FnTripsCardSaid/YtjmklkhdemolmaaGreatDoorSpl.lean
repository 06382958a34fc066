/- A text divided at each byte: the specification's split. -/
import Derived.Test.YtjmklkhdemolmaaGreatDoorNumS
import Derived.Test.YtjmklkhdemolmaaGreatDoorMrgB
namespace Go.Proofs.YtjmklkhdemolmaaGreatDoor
open Go.RowKit Go.Deep
set_option linter.unusedVariables false
set_option maxRecDepth 100000

/-! ### Lists of texts -/
def ts (L : List ByteArray) : Nat → Value := fun i => .string (L.getD i ⟨#[]⟩)
theorem ts_old (L : List ByteArray) (x : ByteArray) {i : Nat} (h : i < L.length) : ts L i = ts (L ++ [x]) i := by simp [ts, List.getElem?_append_left h]
theorem ts_new (L : List ByteArray) (x : ByteArray) : ts (L ++ [x]) L.length = .string x := by simp [ts]
theorem Out.snocS {w : World} {B : Nat} {e : TypeId} {v : Value} {L : List ByteArray} {x : ByteArray} (h : w.ownsRow B e 1 v (L.length + 1) (cellsN (ts L) (L.length * 1) ++ [.string x])) : Out w B e 1 v (L ++ [x]).length (ts (L ++ [x])) := by
  have e1 : cellsN (ts L) (L.length * 1) = cellsN (ts (L ++ [x])) (L.length * 1) := cellsN_congr (fun i hi => ts_old L x (by omega))
  rw [e1] at h
  have := Out.snoc1 h (ts_new L x).symm
  simpa using this
theorem infoT : (Tryz.prog.info? 9).map (fun i => (i.zero, i.size, i.bytes)) = some (some (.string ⟨#[]⟩), 1, 16) := by kernel_rfl

/-- The parts between the bytes b. -/
def spl (b : UInt8) (acc : List UInt8) : List UInt8 → List (List UInt8)
  | [] => [acc]
  | c :: r => if c = b then acc :: spl b [] r else spl b (acc ++ [c]) r
theorem spl_hit (b : UInt8) (acc r : List UInt8) : spl b acc (b :: r) = acc :: spl b [] r := by rw [spl, if_pos rfl]
theorem spl_miss {b c : UInt8} (h : c ≠ b) (acc r : List UInt8) : spl b acc (c :: r) = spl b (acc ++ [c]) r := by rw [spl, if_neg h]
def bsL (l : List UInt8) : ByteArray := ⟨l.toArray⟩
def splB (b : UInt8) (s : ByteArray) : List ByteArray := (spl b [] s.data.toList).map bsL
/-- What is still to come at k, the part under way beginning at f. -/
def splR (b : UInt8) (s : ByteArray) (f k : Nat) : List ByteArray := (spl b ((s.data.toList.drop f).take (k - f)) (s.data.toList.drop k)).map bsL
theorem splR_start (b : UInt8) (s : ByteArray) : splR b s 0 0 = splB b s := by unfold splR splB; rw [Nat.sub_self, List.take_zero]; rfl
theorem extract_list (s : ByteArray) (f k : Nat) : s.extract f k = bsL ((s.data.toList.drop f).take (k - f)) := by
  apply ByteArray.ext
  apply Array.ext'
  show (s.extract f k).data.toList = ((s.data.toList.drop f).take (k - f)).toArray.toList
  rw [ByteArray.data_extract, Array.toList_extract, List.extract_eq_take_drop]
theorem drop_list {s : ByteArray} {k : Nat} (hk : k < s.size) : ∃ c : UInt8, (c.toNat : Int) = byt s k ∧ s.data.toList.drop k = c :: s.data.toList.drop (k + 1) := by
  obtain ⟨c, h1, h2⟩ := byt_list hk
  refine ⟨c, h2, ?_⟩
  have hl : k < s.data.toList.length := by rw [size_list]; exact hk
  rw [List.drop_eq_getElem_cons hl]
  rw [List.getElem?_eq_getElem hl] at h1
  injection h1 with h1
  rw [h1]
theorem splR_hit {b : UInt8} {s : ByteArray} {f k : Nat} (hk : k < s.size) (h : byt s k = (b.toNat : Int)) : splR b s f k = s.extract f k :: splR b s (k + 1) (k + 1) := by
  obtain ⟨c, h1, h2⟩ := drop_list hk
  have : c = b := UInt8.toNat_inj.1 (by omega)
  subst this
  unfold splR
  rw [h2, spl_hit, List.map_cons, Nat.sub_self, List.take_zero, extract_list]
theorem splR_miss {b : UInt8} {s : ByteArray} {f k : Nat} (hf : f ≤ k) (hk : k < s.size) (h : byt s k ≠ (b.toNat : Int)) : splR b s f k = splR b s f (k + 1) := by
  obtain ⟨c, h1, h2⟩ := drop_list hk
  obtain ⟨c', h3, h4⟩ := take_step hf hk
  have : c' = c := UInt8.toNat_inj.1 (by omega)
  subst this
  unfold splR
  rw [h2, h4, spl_miss (fun e => h (by rw [← e]; omega))]
theorem splR_end (b : UInt8) (s : ByteArray) (f : Nat) : splR b s f s.size = [s.extract f s.size] := by
  unfold splR
  have hn : s.data.toList.drop s.size = [] := List.drop_eq_nil_of_le (by rw [size_list]; exact Nat.le_refl _)
  rw [hn, extract_list]
  rfl
attribute [irreducible] splB splR ts

end Go.Proofs.YtjmklkhdemolmaaGreatDoor
