/- From which number of rides on another fare costs less: the program. -/
import Derived.Test.YtjmklkhdemolmaaGreatDoorBreak
namespace Go.Proofs.YtjmklkhdemolmaaGreatDoor
open Go.RowKit Go.Deep
set_option linter.unusedVariables false
set_option maxRecDepth 100000

set_option maxHeartbeats 1600000 in
theorem i_BreakEven (v : Value) (n : Nat) (a : Nat → ByteArray) (b c d : Nat → Int) (x y : ByteArray) (W : World) (hs : Sl W v 4 n (gc a b c d)) (hx : Hid (∀ i, i < n → ((a i).size : Int) ≤ 1048576)) :
    Calls Tryz.prog 9 #[v, .string x, .string y] W fun e W' => e = .returned (.tuple #[.int .i64 (beAll n a b c d x y).1, .int .i64 (beAll n a b c d x y).2]) ∧ Below W.heap.size W W' := by
  have HA := Lib.hid (i_fared2 v n a b c d true x y W hs hx)
  have HS := hs
  have HSA := hs.kept (kept_alloc (Below.refl _ _) (.cells #[.string x, .string y] 9))
  have HAl := kept_alloc (Below.refl W.heap.size W) (.cells #[.string x, .string y] 9)
  obtain ⟨hn, ao, cap, rfl, hr⟩ := hs
  clear hr
  rcases fcode_cases n a b c d true x with ⟨r, hc, hx3⟩ | ⟨hc, -, h8, k, hk, hf, hb, hcc, hd⟩
  · have hR := Lib.hid (beAll_1 (y := y) hc hx3)
    rw [fcode_one (t := two x y) hc hx3] at HA
    clear hc
    rcases hx3 with rfl | rfl | rfl
    all_goals
      go_enter Tryz.func9, Tryz.ntmps9
      go_wp2_with (go_at_call 17; refine HA.out.mono ?_; rintro e w1 ⟨rfl, hb1⟩)
      go_ret2
      exact ⟨by rw [hR.out]; rfl, kept_trans (kept_alloc (Below.refl _ _) _) hb1⟩
  · rw [fcode_two (t := two x y) hc] at HA
    simp only [two_one] at HA
    rcases fcode_cases n a b c d true y with ⟨r, hc2, hx3⟩ | ⟨hc2, -, -, l, hl, hg, hbl, hcl, hdl⟩
    · have hR := Lib.hid (beAll_2 hc hc2 hx3)
      rw [hc2] at HA
      clear hc hc2 hf
      rcases hx3 with rfl | rfl | rfl
      all_goals
        go_enter Tryz.func9, Tryz.ntmps9
        go_wp2_with (go_at_call 17; refine HA.out.mono ?_; rintro e w1 ⟨rfl, hb1⟩)
        go_ret2
        exact ⟨by rw [hR.out]; rfl, kept_trans (kept_alloc (Below.refl _ _) _) hb1⟩
    · have hR := Lib.hid (beAll_3 hc hc2 hf hg)
      have HF := Lib.hid (fun w hs => i_fareOf_yes (b := b) (c := c) (d := d) hf (.slice ao n cap) w hs)
      have HG := Lib.hid (fun w hs => i_fareOf_yes (b := b) (c := c) (d := d) hg (.slice ao n cap) w hs)
      rw [hc2] at HA
      clear hc hc2 hf hg
      generalize hB : beAll n a b c d x y = B at *
      clear hB
      have HH := Lib.hid (fun q (hq : q ≤ (c l).toNat) => beR_hit (p := bep (b k) (c k) (b l)) hq)
      have HM := Lib.hid (fun q (hq : q ≤ (c l).toNat) => beR_miss (p := bep (b k) (c k) (b l)) hq)
      have HE := Lib.hid (fun q (hq : (c l).toNat < q) => beR_end (p := bep (b k) (c k) (b l)) hq)
      have HP : Hid (∀ q : Nat, bep (b k) (c k) (b l) q = decide (b l < b k * (((q : Int) + c k - 1) / c k))) := Lib.hid (fun q => rfl)
      generalize bep (b k) (c k) (b l) = p at *
      go_enter Tryz.func9, Tryz.ntmps9
      go_wp2_with (first | (go_at_call 17; refine HA.out.mono ?_; rintro e w1 ⟨rfl, hb1⟩) | (go_at_call 24; refine (HG.out _ (HSA.kept (kept_alloc (kept_trans hb1 hb2) _))).mono ?_; rintro e w3 ⟨rfl, hb3⟩) | (go_at_call 24; refine (HF.out _ (HSA.kept hb1)).mono ?_; rintro e w2 ⟨rfl, hb2⟩))
      have K2 := kept_trans (kept_trans HAl hb1) hb2
      have K3 := kept_alloc (kept_trans (kept_alloc K2 _) hb3) (.cells #[.string (a l), .int .i64 (b l), .int .i64 (c l), .int .i64 (d l)] 32)
      have sz3 := hb3.size
      simp at sz3
      have x1 : (w3.alloc (.cells #[.string (a l), .int .i64 (b l), .int .i64 (c l), .int .i64 (d l)] 32)).cell? ⟨w2.heap.size, 1, none⟩ = some (.int .i64 (b k)) := cell_keep (kept_alloc hb3 _) (boxed_at rfl rfl)
      have x2 : (w3.alloc (.cells #[.string (a l), .int .i64 (b l), .int .i64 (c l), .int .i64 (d l)] 32)).cell? ⟨w2.heap.size, 2, none⟩ = some (.int .i64 (c k)) := cell_keep (kept_alloc hb3 _) (boxed_at rfl rfl)
      have y1 : (w3.alloc (.cells #[.string (a l), .int .i64 (b l), .int .i64 (c l), .int .i64 (d l)] 32)).cell? ⟨w3.heap.size, 1, none⟩ = some (.int .i64 (b l)) := boxed_at rfl rfl
      have y2 : (w3.alloc (.cells #[.string (a l), .int .i64 (b l), .int .i64 (c l), .int .i64 (d l)] 32)).cell? ⟨w3.heap.size, 2, none⟩ = some (.int .i64 (c l)) := boxed_at rfl rfl
      generalize w3.alloc (.cells #[.string (a l), .int .i64 (b l), .int .i64 (c l), .int .i64 (d l)] 32) = w4 at *
      generalize w3.heap.size = g3 at *
      generalize w2.heap.size = g2 at *
      clear hb1 hb2 hb3 HA HF HG HS HSA HAl K2 sz3
      go_loopw [13] (fun i wr => ∃ q : Nat, 1 ≤ q ∧ (q : Int) ≤ c l + 1 ∧ i = .int .i64 q ∧ Below w4.heap.size w4 wr ∧ Hid (B = beR p (c l).toNat q)) (fun i _ => (c l).toNat + 1 - (intOf i).toNat)
      case atStart => exact ⟨1, Nat.le_refl _, by omega, rfl, Below.refl _ _, hR.out⟩
      case round =>
        obtain ⟨q, hq1, hq2, rfl, hbr, hB⟩ := hrel
        replace x1 := cell_keep hbr x1
        replace x2 := cell_keep hbr x2
        replace y1 := cell_keep hbr y1
        replace y2 := cell_keep hbr y2
        have KR := kept_trans K3 hbr
        by_cases hlt : (q : Int) ≤ c l
        · have BD := be_bd (k := q) (by omega) hb hcc
          have e11 : IntKind.i64.wrap (b k * (((q : Int) + c k - 1) / c k)) = b k * (((q : Int) + c k - 1) / c k) := IntWalk.i64_in _ (by omega)
          have hcd : ∀ w, Calls Tryz.prog 25 #[.int .i64 q, .int .i64 (c k)] w fun e W' => e = .returned (.int .i64 (((q : Int) + c k - 1) / c k)) ∧ W' = w := fun w => (i_ceilDiv _ _ w (by omega)).mono fun _ _ ⟨he, hw⟩ => ⟨he, hw.symm⟩
          cases hp : p q
          · have hB2 : Hid (B = beR p (c l).toNat (q + 1)) := by show _ = _; rw [hB.out]; exact HM.out q (by omega) hp
            have e12 : ¬ b l < b k * (((q : Int) + c k - 1) / c k) := by
              have := HP.out q
              rw [hp] at this
              simpa using this.symm
            clear hp hB
            go_wp2_with fail
            go_quiet ((go_at_call 25; exact Calls.quiet_of_same (hcd _)))
            clear e11 hcd
            go_wp2_with fail
            go_roundw
            case rel => exact ⟨q + 1, by omega, by omega, by go_num, kept_drewN hbr _, hB2⟩
            case measure => simp [intOf]; omega
          · have hR2 : Hid (B = ((q : Int), 0)) := by show _ = _; rw [hB.out]; exact HH.out q (by omega) hp
            have e12 : b l < b k * (((q : Int) + c k - 1) / c k) := by
              have := HP.out q
              rw [hp] at this
              simpa using this.symm
            clear hp hB
            go_wp2_with fail
            go_quiet ((go_at_call 25; exact Calls.quiet_of_same (hcd _)))
            clear e11 hcd
            go_wp2_with fail
            go_ret2
            exact ⟨by rw [hR2.out]; rfl, kept_drewN KR _⟩
        · have hR2 : Hid (B = (0, 6)) := by show _ = _; rw [hB.out]; exact HE.out q (by omega)
          clear hB
          go_wp2_with fail
          go_ret2
          exact ⟨by rw [hR2.out]; rfl, KR⟩


end Go.Proofs.YtjmklkhdemolmaaGreatDoor
