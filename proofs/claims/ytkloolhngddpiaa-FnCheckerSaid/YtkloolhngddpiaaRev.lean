/- slices.Reverse over []int64 of the call's own; the first move to a state. -/
import Derived.Test.YtkloolhngddpiaaFarS
import Derived.Test.YtkloolhngddpiaaFrame
import Derived.RegionTactic
import Derived.ChangeAlike
namespace Go.Proofs.Ytkloolhngddpiaa
open Go.RowKit Go.Deep
set_option linter.unusedVariables false
set_option maxRecDepth 100000

/-- f with its first and last i of n turned. -/
def revK (n i : Nat) (f : Nat → Int) : Nat → Int := fun j => if j < i ∨ n ≤ j + i then f (n - 1 - j) else f j
theorem revK_set {n i j : Nat} {f : Nat → Int} (hi : 2 * i + 1 < n) (hj : j < n) : (if j = n - 1 - i then revK n i f i else if j = i then revK n i f (n - 1 - i) else revK n i f j) = revK n (i + 1) f j := by
  unfold revK
  by_cases h1 : j = n - 1 - i
  · rw [if_pos h1, if_neg (by omega), if_pos (by omega)]; congr 1; omega
  · rw [if_neg h1]
    by_cases h2 : j = i
    · rw [if_pos h2, if_neg (by omega), if_pos (by omega), h2]
    · rw [if_neg h2]
      by_cases h3 : j < i ∨ n ≤ j + i
      · rw [if_pos h3, if_pos (by omega)]
      · rw [if_neg h3, if_neg (by omega)]
theorem revK_end {n i j : Nat} {f : Nat → Int} (hi : n ≤ 2 * i + 1) (hj : j < n) : revK n i f j = f (n - 1 - j) := by
  unfold revK
  by_cases h3 : j < i ∨ n ≤ j + i
  · rw [if_pos h3]
  · rw [if_neg h3]; congr 1; omega

theorem grown_drew6 {W w w6 : World} {g : Nat} (h : W.grownBy w (some g)) (e : w.drew = w6) : W.grownBy w6 (some g) := by
  subst e
  exact ⟨h.os, h.tape, h.output, h.size, h.block⟩
def RevPost (g n cap : Nat) (f : Nat → Int) (F : Nat → Value) (W : World) (en : Ending) (W' : World) : Prop := en = .returned (.tuple #[]) ∧ W.grownBy W' (some g) ∧ ∃ F', W'.rowIs g 2 cap F' ∧ ∀ j, j < n → F' j = .int .i64 (f (n - 1 - j))

set_option maxHeartbeats 1600000 in
theorem i_Reverse (g n cap : Nat) (f : Nat → Int) (F : Nat → Value) (W : World) (hr : W.rowIs g 2 cap F) (hF : Hid (∀ j, j < n → F j = .int .i64 (f j))) (hn : n ≤ 1000) (hc : n ≤ cap) :
    Calls Try.prog 97 #[.slice (some ⟨g, 0, none⟩) n cap] W (RevPost g n cap f F W) := by
  unfold RevPost
  go_enter Try.func97, Try.ntmps97
  go_wp2
  go_loopw [2, 3] (fun a b wr => ∃ (i : Nat) (F' : Nat → Value), i ≤ n ∧ a = .int .i64 i ∧ b = .int .i64 ((n : Int) - 1 - i) ∧ W.grownBy wr (some g) ∧ wr.rowIs g 2 cap F' ∧ Hid (∀ j, j < n → F' j = .int .i64 (revK n i f j))) (fun a _ _ => n - (intOf a).toNat)
  case atStart => exact ⟨0, F, by omega, rfl, by simp, World.grownBy.refl _ _, hr, fun j hj => by rw [hF.out j hj]; unfold revK; rw [if_neg (by omega)]⟩
  case round =>
    obtain ⟨i, F', hi, rfl, rfl, hg, hrow, hF'⟩ := hrel
    by_cases hlt : 2 * i + 1 < n
    · obtain ⟨p, hp⟩ : ∃ p : Nat, (n : Int) - 1 - i = p := ⟨n - 1 - i, by omega⟩
      rw [hp]
      obtain ⟨A, hA⟩ : ∃ A, revK n i f i = A := ⟨_, rfl⟩
      obtain ⟨B, hB⟩ : ∃ B, revK n i f p = B := ⟨_, rfl⟩
      have hip : (i : Int) < p := by omega
      have hpn : (p : Int) < n := by omega
      have hin : (i : Int) < n := by omega
      have hi0 : (0 : Int) ≤ i := by omega
      have hp0 : (0 : Int) ≤ p := by omega
      have ci := hrow.cell (i := i) (by omega)
      have cp := hrow.cell (i := p) (by omega)
      rw [hF'.out i (by omega), hA] at ci
      rw [hF'.out p (by omega), hB] at cp
      have fi := hrow.frozen i
      have fp := hrow.frozen p
      have hpe : p = n - 1 - i := by omega
      have hrS := (hrow.set i (.int .i64 B)).set p (.int .i64 A)
      have HRS := Lib.hid (hrS.of_block ((kept_drew (Below.refl _ _)).block _ hrS.lt))
      have HGS := Lib.hid (grown_drew6 (grown_set (grown_set hg i (.int .i64 B)) p (.int .i64 A)) rfl)
      have HFS : Hid (∀ j, j < n → (if j = p then (.int .i64 A : Value) else if j = i then .int .i64 B else F' j) = .int .i64 (revK n (i + 1) f j)) := fun j hj => by
        rw [← revK_set hlt hj, ← hA, ← hB, ← hpe]
        by_cases h1 : j = p
        · rw [if_pos h1, if_pos h1]
        · rw [if_neg h1, if_neg h1]
          by_cases h2 : j = i
          · rw [if_pos h2, if_pos h2]
          · rw [if_neg h2, if_neg h2, hF'.out j hj]
      have hq : (p : Int) - 1 = (n : Int) - 1 - ((i + 1 : Nat) : Int) := by omega
      have HQ := Lib.hid hq
      have hpi : p ≠ i := by omega
      clear hp hA hB hpe hrow hg hrS hq
      go_wp2_with fail
      go_region
      go_wp2_with fail
      go_roundw
      case rel => exact ⟨i + 1, _, by omega, by go_num, by rw [← HQ.out], HGS.out, HRS.out, HFS.out⟩
      case measure => simp [intOf]; omega
    · have hle : ¬ ((i : Int) < (n : Int) - 1 - i) := by omega
      have hrow2 := Lib.hid hrow
      have hg2 := Lib.hid hg
      clear hrow hg
      go_wp2
      refine bodyPost_end (results_none rfl _ _ _) rfl ⟨rfl, hg2.out, F', hrow2.out, fun j hj => by rw [hF'.out j hj, revK_end (by omega) hj]⟩

end Go.Proofs.Ytkloolhngddpiaa
