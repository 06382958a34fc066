/- Marks of texts. -/
import Derived.Test.YtmgbbfbalmlpiaaGreatDoorInts
import Derived.Test.YtmgbbfbalmlpiaaGreatDoorStr
import Derived.Test.YtmgbbfbalmlpiaaGreatDoorAggs
import Derived.IntWalk
import Derived.Lib.SlBytesRow
import Derived.Deep.DeepCutAuto
import Derived.Deep.RegionHeld3
import Derived.Maps.AppendAt
namespace Go.Proofs.YtmgbbfbalmlpiaaGreatDoor
open Go.RowKit Go.Deep
set_option linter.unusedVariables false
set_option maxRecDepth 100000

/-- The text of a number's last digit. -/
def dig (j : Nat) : ByteArray := ⟨#[UInt8.ofNat (48 + j % 10)]⟩
theorem dig_size (j : Nat) : (dig j).size = 1 := rfl
def dgs : Nat → Nat → ByteArray → ByteArray
  | 0, _, o => o
  | f + 1, k, o => if k = 0 then o else dgs f (k / 10) (dig k ++ o)

/-- The text of one digit, made from its byte. -/
theorem digit_text (w : World) (j : Nat) : (convert 22 9 (.slice (some ⟨w.heap.size, 0, none⟩) 1 1)).run Tryz.prog (w.alloc (.cells #[.int .u8 (48 + (j : Int) % 10)] 5)) = .ok (.string (dig j)) (w.alloc (.cells #[.int .u8 (48 + (j : Int) % 10)] 5)) := by
  refine Lib.run_convert_whole _ _ 5 _ Tryz.underlying22 Tryz.underlying5 Tryz.underlying9 w.heap.size 0 ⟨#[UInt8.ofNat (48 + j % 10)]⟩ ?_ 1
  intro i hi
  have h0 : i = 0 := by have : (⟨#[UInt8.ofNat (48 + j % 10)]⟩ : ByteArray).size = 1 := rfl; omega
  subst h0
  have hv : ((⟨#[UInt8.ofNat (48 + j % 10)]⟩ : ByteArray)[0].toNat : Int) = 48 + (j : Int) % 10 := by
    show (((UInt8.ofNat (48 + j % 10)).toNat : Nat) : Int) = 48 + (j : Int) % 10
    simp
    omega
  rw [hv]
  exact boxed_at rfl rfl

theorem dgs_zero (o : ByteArray) : dgs 0 0 o = o := rfl
theorem dgs_more : ∀ (f g k : Nat) (o : ByteArray), k ≤ f → k ≤ g → dgs f k o = dgs g k o
  | 0, 0, k, o, _, _ => rfl
  | 0, g + 1, k, o, h, _ => by
    have : k = 0 := by omega
    subst this
    simp [dgs]
  | f + 1, 0, k, o, _, h => by
    have : k = 0 := by omega
    subst this
    simp [dgs]
  | f + 1, g + 1, k, o, h1, h2 => by
    by_cases hk : k = 0
    · simp [dgs, hk]
    · simp only [dgs, if_neg hk]
      exact dgs_more f g (k / 10) _ (by omega) (by omega)
theorem dgs_step {j : Nat} (h : 0 < j) (o : ByteArray) : dgs (j / 10) (j / 10) (dig j ++ o) = dgs j j o := by
  obtain ⟨f, rfl⟩ : ∃ f, j = f + 1 := ⟨j - 1, by omega⟩
  conv => rhs; rw [dgs]
  rw [if_neg (by omega)]
  exact dgs_more _ _ _ _ (Nat.le_refl _) (by omega)
/-- The mark's text. -/
def mkT (k : Nat) : ByteArray := ⟨#[109]⟩ ++ dgs k k ⟨#[]⟩
theorem mkT_eq (k : Nat) : (⟨#[109]⟩ : ByteArray) ++ dgs k k ⟨#[]⟩ = mkT k := rfl
attribute [irreducible] dig dgs mkT

theorem rowIs_kept {w w' : World} {b n : Nat} {t : TypeId} {f : Nat → Value} (h : w.rowIs b t n f) (hb : Below w.heap.size w w') : w'.rowIs b t n f := h.of_block (hb.block _ h.lt)
theorem grown_kept {a b c : World} {row : Option Nat} (h : a.grownBy b row) (hb : Below b.heap.size b c) : a.grownBy c row := h.trans (grown_of_below hb row)

def sc (t : Nat → ByteArray) : Nat → Value := fun j => .string (t j)

end Go.Proofs.YtmgbbfbalmlpiaaGreatDoor
