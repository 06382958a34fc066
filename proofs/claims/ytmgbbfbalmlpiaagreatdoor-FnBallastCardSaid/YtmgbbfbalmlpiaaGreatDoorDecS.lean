/- A number in decimal: the reference. -/
import Derived.Test.YtmgbbfbalmlpiaaGreatDoorAggs
import Derived.Lib.SlBytesRow
import Derived.Lib.ItoaNum
import Derived.Lib.ItoaMem
import Derived.Lib.ItoaLen
import Derived.Maps.AppendAt
import Derived.IntWalk
namespace Go.Proofs.YtmgbbfbalmlpiaaGreatDoor
open Go.RowKit Go.Deep
set_option linter.unusedVariables false
set_option maxRecDepth 100000

def ApartV (x y : Value) : Prop := ∀ b, x.ownBlock = some b → y.ownBlock ≠ some b
theorem Out.formV {w : World} {B k n : Nat} {e : TypeId} {v : Value} {f : Nat → Value} (h : Out w B e k v n f) : ∃ ao cap, v = .slice ao n cap := by
  rcases h.2 with ⟨h0, h1⟩ | ⟨gg, gcap, cur, h0, -⟩
  · exact ⟨_, _, by rw [h0, h1]⟩
  · exact ⟨_, _, h0⟩
theorem two_appendV {wr w1 : World} {o : Obj} {B k m : Nat} {e : TypeId} {v v' y : Value} {g : Nat → Value} (hy : Out wr B e k y m g) (hap : ApartV v y) (hg : (wr.alloc o).grownBy w1 v.ownBlock) (hat : v'.ownBlock = v.ownBlock ∨ v'.ownBlock = some (wr.alloc o).heap.size) : Out w1 B e k y m g ∧ ApartV v' y := by
  refine ⟨World.ownsRow.kept (hy.kept (kept_alloc (Below.refl _ _) o)) hg ?_, fun b hb hyb => ?_⟩
  · cases hyb : y.ownBlock with
    | none => exact .inl rfl
    | some b => exact .inr fun hv => hap b hv.symm hyb
  · rcases hat with h | h
    · exact hap b (h ▸ hb) hyb
    · rw [h] at hb
      have h1 := (hy.base b hyb).2
      simp at hb
      omega

theorem infoByte : (Tryz.prog.info? 5).map (fun i => (i.zero, i.size, i.bytes)) = some (some (.int .u8 0), 1, 1) := by kernel_rfl
/-- A list of bytes as a slice's cells. -/
def bcs (L : List UInt8) : Nat → Value := fun i => .int .u8 (((L.getD i 0).toNat : Nat) : Int)
theorem bcs_old (L : List UInt8) (x : UInt8) {i : Nat} (h : i < L.length) : bcs L i = bcs (L ++ [x]) i := by
  simp [bcs, List.getElem?_append_left h]
theorem bcs_new (L : List UInt8) (x : UInt8) : bcs (L ++ [x]) L.length = .int .u8 ((x.toNat : Nat) : Int) := by simp [bcs]
theorem Out.snocB {w : World} {B : Nat} {e : TypeId} {v : Value} {L : List UInt8} {x : UInt8} {u : Value} (h : w.ownsRow B e 1 v (L.length + 1) (cellsN (bcs L) (L.length * 1) ++ [u])) (hu : u = .int .u8 ((x.toNat : Nat) : Int)) : Out w B e 1 v (L ++ [x]).length (bcs (L ++ [x])) := by
  have e1 : cellsN (bcs L) (L.length * 1) = cellsN (bcs (L ++ [x])) (L.length * 1) := cellsN_congr (fun i hi => bcs_old L x (by omega))
  rw [e1] at h
  have := Out.snoc1 h (by rw [bcs_new, hu])
  simpa using this
/-- The digits of a number, none for 0. -/
def hdD (j : Nat) : List UInt8 := if j = 0 then [] else Lib.decDigits j
theorem hdD_step {j : Nat} (h : 0 < j) : hdD (j / 10) ++ [UInt8.ofNat (48 + j % 10)] = hdD j := by
  unfold hdD
  rw [if_neg (show ¬ j = 0 by omega)]
  by_cases hj : j < 10
  · rw [if_pos (show j / 10 = 0 by omega), Lib.decDigits_one hj, List.nil_append, show j % 10 = j by omega]
  · rw [if_neg (show ¬ j / 10 = 0 by omega)]
    conv => rhs; rw [Lib.decDigits, dif_neg hj]
/-- The numeral. -/
def decS (n : Nat) : ByteArray := ⟨(Lib.decDigits n).toArray⟩
theorem decS_zero : decS 0 = ⟨#[48]⟩ := by unfold decS; rw [Lib.decDigits_one (by omega)]; rfl
theorem decS_of (L : List UInt8) (n : Nat) (h : L = Lib.decDigits n) : (⟨L.toArray⟩ : ByteArray) = decS n := by rw [h]; rfl
theorem decS_itoa (n : Nat) : (⟨(Lib.itoa (n : Int)).toArray⟩ : ByteArray) = decS n := by rw [Lib.itoa_nonneg]; rfl
theorem digit_nat (j : Nat) : (48 + (j : Int) % 10) = (((UInt8.ofNat (48 + j % 10)).toNat : Nat) : Int) := by simp; omega
theorem decS_size {n : Nat} (h : n ≤ 1000000000) : (decS n).size ≤ 21 := by
  have h1 := Lib.itoa_length_le (n : Int) (by omega) (by omega)
  rw [Lib.itoa_nonneg] at h1
  show (Lib.decDigits n).toArray.size ≤ 21
  simpa using h1
attribute [irreducible] decS hdD

/-- The text of a slice of bytes. -/
theorem bytes_text (w : World) (B : Nat) (L : List UInt8) (b cap : Nat) (h : Out w B 5 1 (.slice (some ⟨b, 0, none⟩) L.length cap) L.length (bcs L)) : (convert 22 9 (.slice (some ⟨b, 0, none⟩) L.length cap)).run Tryz.prog w = .ok (.string ⟨L.toArray⟩) w := by
  have hr := Row.of_own h.row
  have hsz : (⟨L.toArray⟩ : ByteArray).size = L.length := by show L.toArray.size = L.length; simp
  have := Lib.run_convert_whole (P := Tryz.prog) w 22 5 9 Tryz.underlying22 Tryz.underlying5 Tryz.underlying9 b 0 ⟨L.toArray⟩ (fun i hi => by
    have hi' : i < L.length := by omega
    have h1 := hr.cell (i := i) (by omega)
    rw [cellsN_getD (by omega)] at h1
    rw [h1]
    unfold bcs
    simp [List.getD, hi']
    show ((L[i].toNat : Nat) : Int) = ((L.toArray[i].toNat : Nat) : Int)
    simp) cap
  rw [hsz] at this
  exact this

end Go.Proofs.YtmgbbfbalmlpiaaGreatDoor
