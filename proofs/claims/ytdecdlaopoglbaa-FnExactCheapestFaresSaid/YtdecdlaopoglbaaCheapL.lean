/- The law on CheapestFares. -/
import Derived.Test.YtdecdlaopoglbaaCheapN
import Derived.Test.YtdecdlaopoglbaaGLawC
namespace Go.Proofs.Ytdecdlaopoglbaa
open Go.RowKit Go.Deep
set_option linter.unusedVariables false

theorem ch_ex (m : Nat) (a : Nat → ByteArray) (b c d : Nat → Int) (n : Nat) (z : Nat → Int) : ∃ r0 M r2, ChAns m a b c d n z r0 M r2 ∧ M.length ≤ 17592186044416 := by
  cases hv : vFares m a b c d
  · exact ⟨0, [], 1, .inl ⟨hv, rfl, rfl, rfl⟩, by simp⟩
  · cases ht : trOk n z
    · exact ⟨0, [], 2, .inr (.inl ⟨hv, ht, rfl, rfl, rfl⟩), by simp⟩
    · by_cases h0 : m = 0 ∧ 0 < n
      · exact ⟨0, [], 3, .inr (.inr (.inl ⟨hv, ht, h0.1, h0.2, rfl, rfl, rfl⟩)), by simp⟩
      · obtain ⟨L, P, hG⟩ := good_ex (z := z) (c := b) (r := c) (d := d) (m := m) (n := n) (fun i hi => pk_one (vFares_FB hv).2 (by omega) i)
        refine ⟨L 0, _, 0, .inr (.inr (.inr ⟨hv, ht, by omega, L, P, hG, rfl, rfl, rfl⟩)), ?_⟩
        rw [idF_len]
        have h1 : endF P n ≤ n + 1 := by unfold endF; exact firstTo_le _ _
        have h2 := (trOk_out ht).1
        omega

theorem l_CheapestFares {W : World} (v0 : Value) (n0 : Nat) (a : Nat → ByteArray) (b c d : Nat → Int) (hs0 : Sl W v0 4 n0 (gc a b c d)) (hx0 : Hid (∀ i, i < n0 → ((a i).size : Int) ≤ 9223372036854775807)) (v1 : Value) (n1 : Nat) (z : Nat → Int) (hs1 : Sl W v1 1 n1 (ic z)) (_h : ∀ i, i < n1 → -9223372036854775808 ≤ z i ∧ z i ≤ 9223372036854775807) :
    Calls Try.prog 4 #[v0, v1] W (Truly W) := by
  obtain ⟨r0, M, r2, hA, hl⟩ := ch_ex n0 a b c d n1 z
  exact l_CheapestFares_of v0 n0 a b c d v1 n1 z hs0 hx0 hs1 r0 M.length (tl M) hl r2 (fun w u0 u1 h0 h1 hb => s_CheapestFares u0 n0 a b c d u1 n1 z r0 M r2 hA w h0 hs1.1 h1 hb) (fun w u0 u1 h0 h1 hb => i_CheapestFares u0 n0 a b c d u1 n1 z r0 M r2 hA w h0 hs1.1 h1 hb)

end Go.Proofs.Ytdecdlaopoglbaa
