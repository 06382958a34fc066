/- The laws on the validity of lists of groups and of fares. -/
import Derived.Test.YtfnollbeeehpnaaValid
import Derived.Test.YtfnollbeeehpnaaGLaws
namespace Go.Proofs.Ytfnollbeeehpnaa
open Go.RowKit Go.Deep

theorem l_ValidGroups {W : World} (v : Value) (n : Nat) (a : Nat → ByteArray) (b c d : Nat → Int) (hs : Sl W v 4 n (gc a b c d)) (hx : Hid (∀ i, i < n → ((a i).size : Int) ≤ 9223372036854775807)) : Calls Try.prog 3 #[v] W (Truly W) :=
  l_ValidGroups_of v n a b c d hs hx _ (fun w q h hl => s_ValidGroups q n a b c d w h hl) (fun w q h hl => i_listGroup q n a b c d w h hl)

theorem l_ValidFares {W : World} (v : Value) (n : Nat) (a : Nat → ByteArray) (b c d : Nat → Int) (hs : Sl W v 4 n (gc a b c d)) (hx : Hid (∀ i, i < n → ((a i).size : Int) ≤ 9223372036854775807)) : Calls Try.prog 8 #[v] W (Truly W) :=
  l_ValidFares_of v n a b c d hs hx _ (fun w q h hl => s_ValidFares q n a b c d w h hl) (fun w q h hl => i_listFare q n a b c d w h hl)

end Go.Proofs.Ytfnollbeeehpnaa
