/- From which number of rides on another fare costs less: the law. -/
import Derived.Test.YtfnollbeeehpnaaBreakS
import Derived.Test.YtfnollbeeehpnaaBreakI
namespace Go.Proofs.Ytfnollbeeehpnaa
open Go.RowKit Go.Deep
set_option linter.unusedVariables false
set_option maxRecDepth 100000

theorem l_BreakEven {W : World} (v : Value) (n : Nat) (a : Nat → ByteArray) (b c d : Nat → Int) (hs : Sl W v 4 n (gc a b c d)) (hx : Hid (∀ i, i < n → ((a i).size : Int) ≤ 9223372036854775807)) (x : ByteArray) (hi : x.size ≤ 140737488351232) (y : ByteArray) (hj : y.size ≤ 140737488351232) : Calls Try.prog 11 #[v, .string x, .string y] W (Truly W) :=
  l_BreakEven_of v n a b c d x y hs hx hi hj _ _ (fun w q h hl _ _ => s_BreakEven q n a b c d x y w h hl) (fun w q h hl _ _ => i_BreakEven q n a b c d x y w h hl)

end Go.Proofs.Ytfnollbeeehpnaa
