/- A number in decimal: the program; and what the listed tables give a walk. -/
import Derived.Test.YtjmklkhdemolmaaGreatDoorDecS
import Derived.Test.YtjmklkhdemolmaaGreatDoorShelf
import Derived.Lib.AppendIntMem
namespace Go.Proofs.YtjmklkhdemolmaaGreatDoor
open Go.RowKit Go.Deep
set_option linter.unusedVariables false
set_option maxRecDepth 100000

/-- The table of powers of ten holds what it holds, here and later. -/
def Tab10 (W : World) : Prop := Lib.TabIs Tryz.prog W "internal/strconv.uint64pow10" .u64 Lib.pow10Tab
theorem Tab10.kept {w w' : World} (h : Tab10 w) (hb : Below w.heap.size w w') : Tab10 w' := (Lib.tabBelow_of_tabIs h) w' hb
attribute [irreducible] Tab10

theorem formatInt (n : Nat) (hn : n ≤ 1000000000) (w : World) (h : Tab10 w) : Calls Tryz.prog 59 #[.int .i64 n, .int .i64 10] w fun e w' => e = .returned (.string (decS n)) ∧ Below w.heap.size w w' := by
  have ht : Lib.TabIs Tryz.prog w "internal/strconv.uint64pow10" .u64 Lib.pow10Tab := by unfold Tab10 at h; exact h
  refine (Tryz.strconv_FormatInt_10 (n : Int) (by omega) (by omega) w ht).mono ?_
  rintro e w' ⟨rfl, k, os, rfl⟩
  exact ⟨by rw [decS_itoa], Lib.below_grow _ w (Nat.le_refl _) k os⟩

theorem i_Decimal (n : Nat) (hn : n ≤ 1000000000) (W : World) (h : Tab10 W) : Calls Tryz.prog 52 #[.int .i64 n] W fun e W' => e = .returned (.string (decS n)) ∧ Below W.heap.size W W' := by
  have HF := Lib.hid (formatInt n hn W h)
  go_enter Tryz.func52, Tryz.ntmps52
  go_wp2_with (go_at_call 59; refine HF.out.mono ?_; rintro e w1 ⟨rfl, hb1⟩)
  go_ret
  exact ⟨rfl, hb1⟩

theorem i_DecInt (x : Int) (hx : 0 ≤ x ∧ x ≤ 1000000000) (W : World) (h : Tab10 W) : Calls Tryz.prog 52 #[.int .i64 x] W fun e W' => e = .returned (.string (decS x.toNat)) ∧ Below W.heap.size W W' := by
  obtain ⟨n, rfl⟩ : ∃ n : Nat, x = (n : Int) := ⟨x.toNat, by omega⟩
  exact i_Decimal n (by omega) W h

theorem s_DecInt (x : Int) (hx : 0 ≤ x ∧ x ≤ 1000000000) (W : World) : Calls Tryz.prog 34 #[.int .i64 x] W fun e W' => e = .returned (.string (decS x.toNat)) ∧ Below W.heap.size W W' := by
  obtain ⟨n, rfl⟩ : ∃ n : Nat, x = (n : Int) := ⟨x.toNat, by omega⟩
  exact s_l01Dec n W (by omega)

end Go.Proofs.YtjmklkhdemolmaaGreatDoor
