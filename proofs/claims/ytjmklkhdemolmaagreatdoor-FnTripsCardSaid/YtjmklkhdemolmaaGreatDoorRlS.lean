/- A list of numbers read off its text: the specification. -/
import Derived.Test.YtjmklkhdemolmaaGreatDoorRdW
namespace Go.Proofs.YtjmklkhdemolmaaGreatDoor
open Go.RowKit Go.Deep
set_option linter.unusedVariables false
set_option maxRecDepth 100000

/-! ### Lists of numbers as a slice's elements -/
def iz (L : List Int) : Nat → Value := fun i => .int .i64 (L.getD i 0)
theorem iz_old (L : List Int) (x : Int) {i : Nat} (h : i < L.length) : iz L i = iz (L ++ [x]) i := by simp [iz, List.getElem?_append_left h]
theorem iz_new (L : List Int) (x : Int) : iz (L ++ [x]) L.length = .int .i64 x := by simp [iz]
theorem Out.snocZ {w : World} {B : Nat} {e : TypeId} {v : Value} {L : List Int} {x : Int} (h : w.ownsRow B e 1 v (L.length + 1) (cellsN (iz L) (L.length * 1) ++ [.int .i64 x])) : Out w B e 1 v (L ++ [x]).length (iz (L ++ [x])) := by
  have e1 : cellsN (iz L) (L.length * 1) = cellsN (iz (L ++ [x])) (L.length * 1) := cellsN_congr (fun i hi => iz_old L x (by omega))
  rw [e1] at h
  have := Out.snoc1 h (iz_new L x).symm
  simpa using this
theorem infoZ : (Tryz.prog.info? 2).map (fun i => (i.zero, i.size, i.bytes)) = some (some (.int .i64 0), 1, 8) := by kernel_rfl

theorem spl_len {b : UInt8} (l : List UInt8) : ∀ acc x, x ∈ spl b acc l → x.length ≤ acc.length + l.length := by
  induction l with
  | nil => intro acc x h; rw [spl] at h; simp at h; subst h; simp
  | cons c r ih =>
    intro acc x h
    rw [spl] at h
    split at h
    · rcases List.mem_cons.1 h with h | h
      · rw [h]; simp
      · have := ih [] x h; simp at this ⊢; omega
    · have := ih _ x h; simp at this ⊢; omega
/-- A part that is a number of a list. -/
def okZ (z : ByteArray) : Bool := numB z.data.toList && inB (numV z.data.toList) (-1000000000000) 1000000000000
/-- The parts' numbers, the first k. -/
def numsK (p : Nat → ByteArray) (k : Nat) : List Int := (List.range k).map fun i => numV (p i).data.toList
theorem numsK_zero (p : Nat → ByteArray) : numsK p 0 = [] := rfl
theorem numsK_succ (p : Nat → ByteArray) (k : Nat) : numsK p (k + 1) = numsK p k ++ [numV (p k).data.toList] := by simp [numsK, List.range_succ]
/-- The k-th part. -/
def partZ (s : ByteArray) (k : Nat) : ByteArray := (splB 44 s).getD k ⟨#[]⟩
theorem part_size (s : ByteArray) (k : Nat) : (partZ s k).size ≤ s.size := by
  unfold partZ splB
  by_cases h : k < (spl 44 [] s.data.toList).length
  · rw [List.getD_eq_getElem?_getD, List.getElem?_map, List.getElem?_eq_getElem h]
    have := spl_len _ _ _ (List.getElem_mem h)
    rw [size_list] at this
    simp only [Option.map_some, Option.getD_some, bsL_size]
    simpa using this
  · rw [List.getD_eq_getElem?_getD, List.getElem?_eq_none (by simpa using h)]
    exact Nat.zero_le _
theorem ts_part (s : ByteArray) (k : Nat) : ts (splB 44 s) k = .string (partZ s k) := by unfold ts partZ; rfl
/-- Whether a text is a list's, and the list. -/
def rlB (s : ByteArray) : Bool := decide (s = ⟨#[45]⟩) || (decide ((splB 44 s).length ≤ 64) && allTo (fun k => okZ (partZ s k)) (splB 44 s).length)
def rlL (s : ByteArray) : List Int := if s = ⟨#[45]⟩ then [] else if rlB s = true then numsK (partZ s) (splB 44 s).length else []
theorem rl_dash {s : ByteArray} (h : s = ⟨#[45]⟩) : rlB s = true ∧ rlL s = [] := by unfold rlL rlB; rw [if_pos h]; simp [h]
theorem rl_long {s : ByteArray} (h : ¬ s = ⟨#[45]⟩) (h2 : 64 < (splB 44 s).length) : rlB s = false ∧ rlL s = [] := by
  have hb : rlB s = false := by unfold rlB; simp [h]; omega
  exact ⟨hb, by unfold rlL; rw [if_neg h, hb]; simp⟩
theorem rl_bad {s : ByteArray} (h : ¬ s = ⟨#[45]⟩) {k : Nat} (hk : k < (splB 44 s).length) (h2 : okZ (partZ s k) = false) : rlB s = false ∧ rlL s = [] := by
  have hb : rlB s = false := by unfold rlB; rw [allTo_no hk h2]; simp [h]
  exact ⟨hb, by unfold rlL; rw [if_neg h, hb]; simp⟩
theorem rl_good {s : ByteArray} (h : ¬ s = ⟨#[45]⟩) (h1 : (splB 44 s).length ≤ 64) (h2 : ∀ k, k < (splB 44 s).length → okZ (partZ s k) = true) : rlB s = true ∧ rlL s = numsK (partZ s) (splB 44 s).length := by
  have hb : rlB s = true := by unfold rlB; rw [allTo_yes h2]; simp [h1]
  exact ⟨hb, by unfold rlL; rw [if_neg h, if_pos hb]⟩
attribute [irreducible] iz okZ numsK partZ rlB rlL

end Go.Proofs.YtjmklkhdemolmaaGreatDoor
