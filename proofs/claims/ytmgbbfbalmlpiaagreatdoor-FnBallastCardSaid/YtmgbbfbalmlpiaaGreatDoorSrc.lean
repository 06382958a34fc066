/- Choices read from bytes: the source's two functions. Nothing is said of which byte it is, only that it is one. -/
import Derived.Test.YtmgbbfbalmlpiaaGreatDoorAggs
import Derived.Deep.QuietTactic
import Derived.BigQuiet
import Derived.Laws.BitsAllLaws
namespace Go.Proofs.YtmgbbfbalmlpiaaGreatDoor
open Go.RowKit Go.Deep
set_option linter.unusedVariables false
set_option maxRecDepth 100000

/-- Block g is a source that has read b bytes at most; the bytes lie in a block below g. -/
def SrcAt (w : World) (g : Nat) (b : Int) : Prop :=
  g < w.heap.size ∧ (∀ i, w.frozen? ⟨g, i, none⟩ = false) ∧ ∃ (ao : Option Addr) (n cap : Nat) (k sd : Int),
    w.cell? ⟨g, 0, none⟩ = some (.slice ao n cap) ∧ w.cell? ⟨g, 1, none⟩ = some (.int .i64 k) ∧ w.cell? ⟨g, 2, none⟩ = some (.int .u64 sd) ∧
    0 ≤ k ∧ k ≤ b ∧ 0 ≤ sd ∧ sd ≤ 18446744073709551615 ∧ n ≤ 1048576 ∧
    (n = 0 ∨ ∃ c o, ao = some ⟨c, o, none⟩ ∧ c < g ∧ ∀ i, i < n → ∃ y : Int, w.cell? ⟨c, o + i, none⟩ = some (.int .u8 y) ∧ 0 ≤ y ∧ y ≤ 255)
theorem SrcAt.far {w w' : World} {g : Nat} {b : Int} {row : Option Nat} (h : SrcAt w g b) (hg : w.grownBy w' row) (hr : ∀ r, row = some r → g < r) : SrcAt w' g b := by
  obtain ⟨h1, hf, ao, n, cap, k, sd, c0, c1, c2, h2, h3, h4, h5, h6, h7⟩ := h
  have hne : some g ≠ row := fun e => by have := hr g e.symm; omega
  have hc : ∀ i v, w.cell? ⟨g, i, none⟩ = some v → w'.cell? ⟨g, i, none⟩ = some v := fun i v hv => (World.cell?_of_block (a := ⟨g, i, none⟩) (hg.block g h1 hne)).trans hv
  refine ⟨Nat.lt_of_lt_of_le h1 hg.size, fun i => ?_, ao, n, cap, k, sd, hc _ _ c0, hc _ _ c1, hc _ _ c2, h2, h3, h4, h5, h6, ?_⟩
  · have := hf i
    unfold World.frozen? at this ⊢
    rw [hg.block g h1 hne]
    exact this
  · rcases h7 with h7 | ⟨c, o, e, hcg, hy⟩
    · exact .inl h7
    · refine .inr ⟨c, o, e, hcg, fun i hi => ?_⟩
      obtain ⟨y, q1, q2⟩ := hy i hi
      exact ⟨y, (World.cell?_of_block (a := ⟨c, o + i, none⟩) (hg.block c (by omega) (fun e => by have := hr c e.symm; omega))).trans q1, q2⟩
theorem SrcAt.kept {w w' : World} {g : Nat} {b : Int} (h : SrcAt w g b) (hb : Below w.heap.size w w') : SrcAt w' g b := h.far (grown_of_below hb none) (fun r e => by cases e)
theorem SrcAt.le {w : World} {g : Nat} {b c : Int} (h : SrcAt w g b) (hc : b ≤ c) : SrcAt w g c := by
  obtain ⟨h1, hf, ao, n, cap, k, sd, c0, c1, c2, h2, h3, h4⟩ := h
  exact ⟨h1, hf, ao, n, cap, k, sd, c0, c1, c2, h2, by omega, h4⟩

theorem SrcAt.step {w : World} {g : Nat} {b k sd sd' : Int} {ao : Option Addr} {n cap : Nat} (h : SrcAt w g b) (c1 : w.cell? ⟨g, 1, none⟩ = some (.int .i64 k)) (c2 : w.cell? ⟨g, 2, none⟩ = some (.int .u64 sd)) (h0 : 0 ≤ sd' ∧ sd' ≤ 18446744073709551615) (d e : Nat) :
    SrcAt ((((w.drewN d).setCell ⟨g, 1, none⟩ (.int .i64 (k + 1))).setCell ⟨g, 2, none⟩ (.int .u64 sd')).drewN e) g (b + 1) := by
  obtain ⟨h1, hf, ao, n, cap, k2, sd2, q0, q1, q2, h2, h3, h4, h5, h6, h7⟩ := h
  obtain rfl : k2 = k := by rw [q1] at c1; injection c1 with c1; injection c1
  have e1 : (w.drewN d).cell? ⟨g, 1, none⟩ = some (.int .i64 k2) := q1
  have e2 : (w.drewN d).cell? ⟨g, 2, none⟩ = some (.int .u64 sd2) := q2
  refine ⟨by show g < (((w.drewN d).setCell _ _).setCell _ _).heap.size; simp; exact h1, fun i => ?_, ao, n, cap, k2 + 1, sd', ?_, ?_, ?_, by omega, by omega, h0.1, h0.2, h6, ?_⟩
  · show ((((w.drewN d).setCell _ _).setCell _ _)).frozen? _ = false
    rw [World.frozen?_setCell, World.frozen?_setCell]
    exact hf i
  · show ((((w.drewN d).setCell _ _).setCell _ _)).cell? _ = _
    rw [World.cell?_setCell_other _ _ _ _ (by simp), World.cell?_setCell_other _ _ _ _ (by simp)]
    exact q0
  · show ((((w.drewN d).setCell _ _).setCell _ _)).cell? _ = _
    rw [World.cell?_setCell_other _ _ _ _ (by simp)]
    exact World.cell?_setCell_same _ _ _ e1
  · show ((((w.drewN d).setCell _ _).setCell _ _)).cell? _ = _
    exact World.cell?_setCell_same _ _ _ ((World.cell?_setCell_other _ _ _ _ (by simp)).trans e2)
  · rcases h7 with h7 | ⟨c, o, e, hcg, hy⟩
    · exact .inl h7
    · refine .inr ⟨c, o, e, hcg, fun i hi => ?_⟩
      obtain ⟨y, r1, r2⟩ := hy i hi
      refine ⟨y, ?_, r2⟩
      show ((((w.drewN d).setCell _ _).setCell _ _)).cell? _ = _
      have hne : ∀ j, (⟨c, o + i, none⟩ : Addr) ≠ ⟨g, j, none⟩ := fun j e => by have := congrArg (fun a : Addr => a.block) e; simp at this; omega
      rw [World.cell?_setCell_other _ _ _ _ (by first | exact hne _ | exact (hne _).symm), World.cell?_setCell_other _ _ _ _ (by first | exact hne _ | exact (hne _).symm)]
      exact r1
theorem grown_step (w : World) (g : Nat) (u v : Value) (d e : Nat) : w.grownBy ((((w.drewN d).setCell ⟨g, 1, none⟩ u).setCell ⟨g, 2, none⟩ v).drewN e) (some g) := by
  have h := grown_set (grown_set (g := g) (grown_of_below (kept_drewN (Below.refl w.heap.size w) d) (some g)) 1 u) 2 v
  exact ⟨h.os, h.tape, h.output, h.size, h.block⟩
theorem and255 {E : Int} (h : 0 ≤ E ∧ E ≤ 18446744073709551615) : 0 ≤ wrap64 (bits .and .u64 E 255) ∧ wrap64 (bits .and .u64 E 255) ≤ 255 := by
  rw [u64_and E 255 h.1 (by omega) (by omega) (by omega)]
  have h1 : E.toNat &&& (255 : Int).toNat ≤ 255 := Nat.and_le_right
  have h2 : wrap64 (((E.toNat &&& (255 : Int).toNat : Nat)) : Int) = ((E.toNat &&& (255 : Int).toNat : Nat) : Int) := by unfold wrap64; omega
  rw [h2]
  omega
theorem u64_bd (n : Int) : 0 ≤ IntKind.u64.wrap n ∧ IntKind.u64.wrap n ≤ 18446744073709551615 := by rw [IntKind.wrap_u64]; omega

set_option maxHeartbeats 800000 in
theorem src_next (g : Nat) (b : Int) (w : World) (h : SrcAt w g b) (hb : b ≤ 1000000000) : Calls Tryz.prog 38 #[.pointer (some ⟨g, 0, none⟩)] w fun e w' => ∃ x : Int, e = .returned (.int .i64 x) ∧ (0 ≤ x ∧ x ≤ 255) ∧ w.grownBy w' (some g) ∧ SrcAt w' g (b + 1) := by
  have H := Lib.hid h
  obtain ⟨h1, hf, ao, n, cap, k, sd, c0, c1, c2, h2, h3, h4, h5, h6, h7⟩ := h
  have HS := Lib.hid (fun sd' h0 d e => H.out.step (sd' := sd') (ao := ao) (n := n) (cap := cap) c1 c2 h0 d e)
  have f1 := hf 1
  have f2 := hf 2
  by_cases hk : k < n
  · rcases h7 with h7 | ⟨c, o, rfl, hcg, hy⟩
    · omega
    obtain ⟨i, rfl⟩ : ∃ i : Nat, k = (i : Int) := ⟨k.toNat, by omega⟩
    obtain ⟨y, cy, y0, y1⟩ := hy i (by omega)
    clear hy hf H
    go_enter Tryz.func38, Tryz.ntmps38
    go_wp2
    go_quiet (fail)
    go_wp2
    go_quiet (fail)
    go_wp2
    go_quiet (fail)
    go_wp2
    go_ret
    exact ⟨y, rfl, ⟨y0, y1⟩, grown_step _ _ _ _ _ _, HS.out _ (u64_bd _) _ _⟩
  · clear h7 hf H
    go_enter Tryz.func38, Tryz.ntmps38
    go_wp2
    go_quiet (fail)
    go_wp2
    go_quiet (fail)
    go_wp2
    go_ret
    exact ⟨_, rfl, and255 (by have := u64_bd (IntKind.u64.wrap (IntKind.u64.wrap (sd * 6364136223846793005)) + 1442695040888963407); omega), grown_step _ _ _ _ _ _, HS.out _ (u64_bd _) _ _⟩

theorem grown_trans {a b c : World} {row : Option Nat} (h : a.grownBy b row) (k : b.grownBy c row) : a.grownBy c row :=
  ⟨k.os.trans h.os, k.tape.trans h.tape, k.output.trans h.output, Nat.le_trans h.size k.size, fun i hi hne => (k.block i (Nat.lt_of_lt_of_le hi h.size) hne).trans (h.block i hi hne)⟩

theorem src_pick (g : Nat) (b m : Int) (w : World) (h : SrcAt w g b) (hb : b ≤ 999999990) (hm : 1 ≤ m ∧ m ≤ 65536) : Calls Tryz.prog 17 #[.pointer (some ⟨g, 0, none⟩), .int .i64 m] w fun e w' => ∃ x : Int, e = .returned (.int .i64 x) ∧ (0 ≤ x ∧ x < m) ∧ w.grownBy w' (some g) ∧ SrcAt w' g (b + 2) := by
  have HN := Lib.hid (fun w c (hs : SrcAt w g c) (hc : c ≤ b + 1) => src_next g c w hs (by omega))
  have H := Lib.hid h
  clear h
  by_cases h1 : m ≤ 1
  · go_enter Tryz.func17, Tryz.ntmps17
    go_wp2
    go_ret
    exact ⟨0, rfl, by omega, grown_of_below (Below.refl _ _) _, H.out.le (by omega)⟩
  · by_cases h2 : 200 < m
    · go_enter Tryz.func17, Tryz.ntmps17
      go_wp2_with (first
        | (go_at_call 38; refine (HN.out _ _ hs1 (by omega)).mono ?_; rintro e w2 ⟨y, rfl, hy, hg2, hs2⟩)
        | (go_at_call 38; refine (HN.out _ _ H.out (by omega)).mono ?_; rintro e w1 ⟨x, rfl, hx, hg1, hs1⟩))
      go_ret
      exact ⟨_, rfl, ⟨Int.emod_nonneg _ (by omega), Int.emod_lt_of_pos _ (by omega)⟩, grown_trans hg1 hg2, hs2.le (by omega)⟩
    · go_enter Tryz.func17, Tryz.ntmps17
      go_wp2_with (go_at_call 38; refine (HN.out _ _ H.out (by omega)).mono ?_; rintro e w1 ⟨x, rfl, hx, hg1, hs1⟩)
      go_ret
      exact ⟨_, rfl, ⟨Int.emod_nonneg _ (by omega), Int.emod_lt_of_pos _ (by omega)⟩, hg1, hs1.le (by omega)⟩

end Go.Proofs.YtmgbbfbalmlpiaaGreatDoor
