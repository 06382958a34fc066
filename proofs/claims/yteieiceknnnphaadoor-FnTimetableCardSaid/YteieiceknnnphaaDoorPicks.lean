/- Lists of numbers that grow at the end, as rows of cells; the numbers below k that are picked. -/
import Derived.Test.YteieiceknnnphaaDoorCore
import Derived.Test.YteieiceknnnphaaDoorInts
namespace Go.Proofs.YteieiceknnnphaaDoor
open Go.RowKit Go.Deep
set_option maxRecDepth 100000

/-- A list as a function. -/
def lz (L : List Int) : Nat → Int := fun i => L.getD i 0
theorem lz_old (L : List Int) (x : Int) {i : Nat} (h : i < L.length) : lz L i = lz (L ++ [x]) i := by
  simp [lz, List.getElem?_append_left h]
theorem lz_new (L : List Int) (x : Int) : lz (L ++ [x]) L.length = x := by simp [lz]
theorem Out.snocL {w : World} {B : Nat} {e : TypeId} {v : Value} {L : List Int} {x : Int} (h : w.ownsRow B e 1 v (L.length + 1) (cellsN (ic (lz L)) (L.length * 1) ++ [.int .i64 x])) : Out w B e 1 v (L ++ [x]).length (ic (lz (L ++ [x]))) := by
  have e1 : cellsN (ic (lz L)) (L.length * 1) = cellsN (ic (lz (L ++ [x]))) (L.length * 1) := cellsN_congr (fun i hi => by simp only [ic]; rw [lz_old L x (by omega)])
  rw [e1] at h
  have := Out.snoc1 h (by simp only [ic]; rw [lz_new])
  simpa using this

/-- The numbers below k with p, in order. -/
def picks (p : Nat → Bool) : Nat → List Int
  | 0 => []
  | k + 1 => if p k then picks p k ++ [(k : Int)] else picks p k
theorem picks_yes {p : Nat → Bool} {k : Nat} (h : p k = true) : picks p (k + 1) = picks p k ++ [(k : Int)] := by simp [picks, h]
theorem picks_no {p : Nat → Bool} {k : Nat} (h : p k = false) : picks p (k + 1) = picks p k := by simp [picks, h]
theorem picks_zero (p : Nat → Bool) : picks p 0 = [] := rfl
theorem picks_len (p : Nat → Bool) (k : Nat) : (picks p k).length ≤ k := by
  induction k with
  | zero => simp [picks]
  | succ k ih => cases h : p k <;> simp [picks, h] <;> omega
attribute [irreducible] picks lz

end Go.Proofs.YteieiceknnnphaaDoor
