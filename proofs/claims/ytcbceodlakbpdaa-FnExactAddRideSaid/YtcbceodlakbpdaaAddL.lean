/- The law on AddRide. -/
import Derived.Test.YtcbceodlakbpdaaAddI
import Derived.Test.YtcbceodlakbpdaaRLawAdd
namespace Go.Proofs.Ytcbceodlakbpdaa
open Go.RowKit Go.Deep

theorem addF_rc (n : Nat) (lv tk : Nat → Int) (l t : Int) (i : Nat) : addF n lv tk l t i = rc (insF (insK n lv l) l lv) (insF (insK n lv l) t tk) i := by unfold addF; rfl
theorem addN_le {n : Nat} (h : n ≤ 17592186044416) (lv tk : Nat → Int) (l t u : Int) : addN n lv tk l t u ≤ 17592186044416 := by
  rcases add_cases n lv tk l t u with ⟨-, HF⟩ | ⟨-, -, HF⟩ | ⟨-, -, -, HF⟩ | ⟨-, -, -, -, -, HF⟩ | ⟨-, -, -, -, -, -, HF⟩ | ⟨-, -, -, -, -, hn, HF⟩
  all_goals
    rw [HF.out.2]
    omega

theorem l_AddRide {W : World} (v : Value) (n : Nat) (lv tk : Nat → Int) (hs : Sl W v 2 n (rc lv tk)) (_hz : True) (l t u : Int) : Calls Try.prog 10 #[v, .agg #[.int .i64 l, .int .i64 t], .int .i64 u] W (Truly W) :=
  l_AddRide_of v n lv tk l t u hs (addN n lv tk l t u)
    (insF (insK n lv l) l lv) (insF (insK n lv l) t tk) (addN_le hs.1 _ _ _ _ _) (addC n lv tk l t u)
    (fun w g h => (s_AddRide g n lv tk l t u w hs.1 h).mono fun _ _ ⟨v, h1, h2, h3⟩ => ⟨v, h1, h2, h3.congr fun i _ => addF_rc n lv tk l t i⟩)
    (fun w g h => (i_AddRide g n lv tk l t u w hs.1 h).mono fun _ _ ⟨v, h1, h2, h3⟩ => ⟨v, h1, h2, h3.congr fun i _ => addF_rc n lv tk l t i⟩)

end Go.Proofs.Ytcbceodlakbpdaa
