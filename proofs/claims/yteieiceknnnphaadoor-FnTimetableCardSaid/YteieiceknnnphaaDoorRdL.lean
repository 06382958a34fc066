/- The law: both read a ride's text alike. -/
import Derived.Test.YteieiceknnnphaaDoorRdR
namespace Go.Proofs.YteieiceknnnphaaDoor
open Go.RowKit Go.Deep
set_option linter.unusedVariables false
set_option maxRecDepth 100000

/-- What the listed variables give. -/
def TabE (W : World) : Prop := Tab10 W ∧ ErrS W

open Go.ChangeShapes Go.WideShapes in
/-- What reads as an interface's datum is an interface's value. -/
theorem iface_of {H : Type} {enc : TypeId × Value → H} {P : Program} {w : World} {base : Nat} {sp : Nat → Bool} {held : Bool} {fuel : Nat} {t : TypeId} {ms : Array (String × TypeId)} {cs : List Value} {n : String} {d : DataW H} {p : List MemPlace}
    (ht : P.underlying t = some (.interface ms)) (h : DataW.trod enc P w base sp held fuel t cs = some (.iface n d, p)) : ∃ u v, cs = [.iface u v] := by
  cases fuel with
  | zero => simp [DataW.trod] at h
  | succ fuel =>
    simp only [DataW.trod, ht] at h
    split at h
    all_goals first | exact ⟨_, _, rfl⟩ | (simp at h; done) | simp_all

end Go.Proofs.YteieiceknnnphaaDoor
