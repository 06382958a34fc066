/- Whether a list has a number: the laws' r8Has. -/
import Derived.Test.YteieiceknnnphaaDoorPicks
import Derived.Test.YteieiceknnnphaaDoorSrcFrom
namespace Go.Proofs.YteieiceknnnphaaDoor
open Go.RowKit Go.Deep
set_option linter.unusedVariables false
set_option maxRecDepth 100000

theorem has_yes {L : List Int} {x : Int} {k : Nat} (hk : k < L.length) (h : lz L k = x) : decide (x ∈ L) = true := by
  unfold lz at h
  refine decide_eq_true ?_
  rw [← h]
  simp [hk]
theorem has_no {L : List Int} {x : Int} (h : ∀ k, k < L.length → ¬ lz L k = x) : decide (x ∈ L) = false := by
  refine decide_eq_false fun hm => ?_
  obtain ⟨k, hk, e⟩ := List.mem_iff_getElem.1 hm
  refine h k hk ?_
  unfold lz
  simpa [hk] using e
theorem l_r8Has (v : Value) (L : List Int) (x : Int) (W : World) (hs : Sl W v 1 L.length (ic (lz L))) : Calls Tryd.prog 13 #[v, .int .i64 x] W fun e W' => e = .returned (.bool (decide (x ∈ L))) ∧ W = W' := by
  have HY : Hid (∀ k, k < L.length → lz L k = x → decide (x ∈ L) = true) := fun k hk h => has_yes hk h
  have HN : Hid ((∀ k, k < L.length → ¬ lz L k = x) → decide (x ∈ L) = false) := fun h => has_no h
  generalize decide (x ∈ L) = R at *
  generalize lz L = z at *
  generalize L.length = n at *
  obtain ⟨hn, ao, cap, rfl, hr⟩ := hs
  go_enter Tryd.func13, Tryd.ntmps13
  go_wp2
  go_loopw [5] (fun i wr => ∃ k : Nat, k ≤ n ∧ i = .int .i64 k ∧ W = wr ∧ Hid (∀ j, j < k → ¬ z j = x)) (fun i _ => n - (intOf i).toNat)
  case atStart => exact ⟨0, by omega, rfl, (by first | trivial | rfl), fun j hj => absurd hj (by omega)⟩
  case round =>
    obtain ⟨k, hk, rfl, rfl, hno⟩ := hrel
    by_cases hlt : k < n
    · rcases hr with h0 | ⟨g, off, rfl, hr⟩
      · omega
      have hcell := hr.cell (i := k) (by omega)
      simp only [ic] at hcell
      clear hr
      by_cases he : z k = x
      · have hR := Lib.hid (HY.out k hlt he)
        have e1 : z k ≤ x := by omega
        have e2 : x ≤ z k := by omega
        clear he
        go_wp2
        go_ret
        exact ⟨by rw [hR.out]; rfl, rfl⟩
      · have hno2 : Hid (∀ j, j < k + 1 → ¬ z j = x) := fun j hj => by
          by_cases e : j = k
          · rw [e]; exact he
          · exact hno.out j (by omega)
        go_wp2
        go_roundw
        case rel => exact ⟨k + 1, by omega, by go_num, (by first | trivial | rfl), hno2⟩
        case measure => simp [intOf]; omega
    · obtain rfl : k = n := by omega
      have hR := Lib.hid (HN.out hno.out)
      clear hr
      go_wp2
      go_ret
      exact ⟨by rw [hR.out]; rfl, rfl⟩

end Go.Proofs.YteieiceknnnphaaDoor
