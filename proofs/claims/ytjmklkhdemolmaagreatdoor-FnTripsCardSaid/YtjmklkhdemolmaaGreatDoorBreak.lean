/- From which number of rides on another fare costs less. -/
import Derived.Test.YtjmklkhdemolmaaGreatDoorPays
namespace Go.Proofs.YtjmklkhdemolmaaGreatDoor
open Go.RowKit Go.Deep
set_option linter.unusedVariables false
set_option maxRecDepth 100000

theorem fcode_two {n : Nat} {a : Nat → ByteArray} {b c d : Nat → Int} {fine : Bool} {t : Nat → ByteArray} (h : fcode n a b c d fine 1 (fun _ => t 0) = 0) : 
    fcode n a b c d fine 2 t = fcode n a b c d fine 1 (fun _ => t 1) := by
  unfold fcode at h ⊢
  split
  · rename_i hv
    rw [if_pos hv] at h
    split
    · rename_i hf
      rw [if_pos hf] at h
      by_cases h0 : 0 ≤ fidx n a (t 0)
      · by_cases h1 : 0 ≤ fidx n a (t 1)
        · rw [allTo_yes (fun i hi => by
            rcases (show i = 0 ∨ i = 1 by omega) with rfl | rfl <;> simp [h0, h1]), allTo_yes (fun i hi => by simp [h1])]
        · rw [allTo_no (k := 1) (by omega) (by simp; omega), allTo_no (k := 0) (by omega) (by simp; omega)]
      · rw [allTo_no (k := 0) (by omega) (by simp; omega)] at h
        simp at h
    · rfl
  · rfl
theorem fcode_one {n : Nat} {a : Nat → ByteArray} {b c d : Nat → Int} {fine : Bool} {t : Nat → ByteArray} {x : Int} (h : fcode n a b c d fine 1 (fun _ => t 0) = x) (hx : x = 1 ∨ x = 2 ∨ x = 3) :
    fcode n a b c d fine 2 t = x := by
  unfold fcode at h ⊢
  split
  · rename_i hv
    rw [if_pos hv] at h
    split
    · rename_i hf
      rw [if_pos hf] at h
      by_cases h0 : 0 ≤ fidx n a (t 0)
      · rw [allTo_yes (fun i hi => by simp [h0])] at h
        simp at h
        omega
      · rw [allTo_no (k := 0) (by omega) (by simp; omega)] at h
        rw [allTo_no (k := 0) (by omega) (by simp; omega)]
        exact h
    · rename_i hf
      rw [if_neg hf] at h
      exact h
  · rename_i hv
    rw [if_neg hv] at h
    exact h

def two (x y : ByteArray) : Nat → ByteArray := fun i => if i = 0 then x else y
theorem two_one (x y : ByteArray) : two x y 1 = y := rfl
theorem two_zero (x y : ByteArray) : two x y 0 = x := rfl
theorem Sl.two_str {w : World} {x y : ByteArray} {t : TypeId} : Sl (w.alloc (.cells #[.string x, .string y] t)) (.slice (some ⟨w.heap.size, 0, none⟩) 2 2) 1 2 (sc (two x y)) :=
  Sl.of_row (by omega) (Row.of_rowIs (World.rowIs_alloc w #[.string x, .string y] t (sc (two x y)) (fun i hi => by
    have hi' : i < 2 := by simpa using hi
    match i, hi' with
    | 0, _ => rfl
    | 1, _ => rfl)))
theorem i_fared2 (v : Value) (n : Nat) (a : Nat → ByteArray) (b c d : Nat → Int) (fine : Bool) (x y : ByteArray) (w : World) (hs : Sl w v 4 n (gc a b c d)) (hx : Hid (∀ i, i < n → ((a i).size : Int) ≤ 1048576)) :
    Calls Tryz.prog 17 #[v, .bool fine, .slice (some ⟨w.heap.size, 0, none⟩) 2 2] (w.alloc (.cells #[.string x, .string y] 9)) fun e W' => e = .returned (.int .i64 (fcode n a b c d fine 2 (two x y))) ∧ Below (w.alloc (.cells #[.string x, .string y] 9)).heap.size (w.alloc (.cells #[.string x, .string y] 9)) W' :=
  i_fared v n a b c d fine _ 2 (two x y) _ (hs.kept (kept_alloc (Below.refl _ _) _)) hx Sl.two_str

/-- The first k that p takes, or an error. -/
def beGo (p : Nat → Bool) : Nat → Nat → Int × Int
  | _, 0 => (0, 6)
  | k, m + 1 => if p k then ((k : Int), 0) else beGo p (k + 1) m
def beR (p : Nat → Bool) (R k : Nat) : Int × Int := beGo p k (R + 1 - k)
theorem beR_hit {p : Nat → Bool} {R k : Nat} (hk : k ≤ R) (h : p k = true) : beR p R k = ((k : Int), 0) := by
  unfold beR
  rw [show R + 1 - k = (R - k) + 1 by omega, beGo, if_pos h]
theorem beR_miss {p : Nat → Bool} {R k : Nat} (hk : k ≤ R) (h : p k = false) : beR p R k = beR p R (k + 1) := by
  unfold beR
  rw [show R + 1 - k = (R - k) + 1 by omega, beGo, if_neg (by rw [h]; simp), show R + 1 - (k + 1) = R - k by omega]
theorem beR_end {p : Nat → Bool} {R k : Nat} (hk : R < k) : beR p R k = (0, 6) := by
  unfold beR
  rw [show R + 1 - k = 0 by omega, beGo]
attribute [irreducible] beR
def bep (ac ar bc : Int) : Nat → Bool := fun k => decide (bc < ac * (((k : Nat) + ar - 1) / ar))
theorem be_bd {k : Nat} {ac ar : Int} (hk : k ≤ 1000) (ha : 0 ≤ ac ∧ ac ≤ 100000) (hr : 1 ≤ ar ∧ ar ≤ 1000) : 0 ≤ ((k : Int) + ar - 1) / ar ∧ ((k : Int) + ar - 1) / ar ≤ 2000 ∧ 0 ≤ ac * (((k : Int) + ar - 1) / ar) ∧ ac * (((k : Int) + ar - 1) / ar) ≤ 200000000 := by
  have h1 : 0 ≤ ((k : Int) + ar - 1) / ar := Int.ediv_nonneg (by omega) (by omega)
  have h2 : ((k : Int) + ar - 1) / ar ≤ (k : Int) + ar - 1 := Int.ediv_le_self _ (by omega)
  refine ⟨h1, by omega, Int.mul_nonneg ha.1 h1, ?_⟩
  have := Int.mul_le_mul ha.2 (show ((k : Int) + ar - 1) / ar ≤ 2000 by omega) h1 (by omega)
  omega

/-- The answer for two fares. -/
def beAll (n : Nat) (a : Nat → ByteArray) (b c d : Nat → Int) (x y : ByteArray) : Int × Int :=
  if fcode n a b c d true 1 (fun _ => x) = 0 then
    if fcode n a b c d true 1 (fun _ => y) = 0 then beR (bep (b (fidx n a x).toNat) (c (fidx n a x).toNat) (b (fidx n a y).toNat)) (c (fidx n a y).toNat).toNat 1
    else (0, fcode n a b c d true 1 (fun _ => y))
  else (0, fcode n a b c d true 1 (fun _ => x))
theorem beAll_1 {n : Nat} {a : Nat → ByteArray} {b c d : Nat → Int} {x y : ByteArray} {r : Int} (h : fcode n a b c d true 1 (fun _ => x) = r) (hx : r = 1 ∨ r = 2 ∨ r = 3) : beAll n a b c d x y = (0, r) := by
  unfold beAll; rw [h, if_neg (by omega)]
theorem beAll_2 {n : Nat} {a : Nat → ByteArray} {b c d : Nat → Int} {x y : ByteArray} {r : Int} (h0 : fcode n a b c d true 1 (fun _ => x) = 0) (h : fcode n a b c d true 1 (fun _ => y) = r) (hx : r = 1 ∨ r = 2 ∨ r = 3) : beAll n a b c d x y = (0, r) := by
  unfold beAll; rw [if_pos h0, h, if_neg (by omega)]
theorem beAll_3 {n : Nat} {a : Nat → ByteArray} {b c d : Nat → Int} {x y : ByteArray} {k l : Nat} (h0 : fcode n a b c d true 1 (fun _ => x) = 0) (h : fcode n a b c d true 1 (fun _ => y) = 0) (hk : fidx n a x = k) (hl : fidx n a y = l) :
    beAll n a b c d x y = beR (bep (b k) (c k) (b l)) (c l).toNat 1 := by
  unfold beAll; rw [if_pos h0, if_pos h, hk, hl, Int.toNat_natCast, Int.toNat_natCast]
attribute [irreducible] beAll


end Go.Proofs.YtjmklkhdemolmaaGreatDoor
