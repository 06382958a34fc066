/- Splitting at a byte undoes joining with it, and the other way about. No program. -/
import Derived.Test.YtjmklkhdemolmaaGreatDoorRdP
namespace Go.Proofs.YtjmklkhdemolmaaGreatDoor

/-- The parts with b between them. -/
def joinB (b : UInt8) : List (List UInt8) → List UInt8
  | [] => []
  | [x] => x
  | x :: y :: r => x ++ b :: joinB b (y :: r)
theorem spl_join {b : UInt8} : ∀ ps : List (List UInt8), ps ≠ [] → (∀ x ∈ ps, ∀ c ∈ x, c ≠ b) → spl b [] (joinB b ps) = ps
  | [], h, _ => absurd rfl h
  | [x], _, h => by rw [joinB, spl_plain _ _ (h x (by simp))]; rfl
  | x :: y :: r, _, h => by
    rw [joinB, spl_first _ _ _ (h x (by simp)), spl_join (y :: r) (by simp) (fun z hz => h z (List.mem_cons_of_mem _ hz))]
    rfl
theorem join_cons {b : UInt8} {x : List UInt8} {p : List (List UInt8)} (h : p ≠ []) : joinB b (x :: p) = x ++ b :: joinB b p := by
  cases p with
  | nil => exact absurd rfl h
  | cons y r => rw [joinB]
theorem join_spl {b : UInt8} (l : List UInt8) : ∀ acc, joinB b (spl b acc l) = acc ++ l := by
  induction l with
  | nil => intro acc; rw [spl, joinB, List.append_nil]
  | cons c r ih =>
    intro acc
    by_cases hc : c = b
    · subst hc
      rw [spl_hit, join_cons (spl_ne _ _ _), ih, List.nil_append]
    · rw [spl_miss hc, ih]; simp

end Go.Proofs.YtjmklkhdemolmaaGreatDoor
