/- From which number of rides on another fare costs less: the meaning. -/
import Derived.Test.YtfnollbeeehpnaaBreak
namespace Go.Proofs.Ytfnollbeeehpnaa
open Go.RowKit Go.Deep
set_option linter.unusedVariables false
set_option maxRecDepth 100000

set_option maxHeartbeats 1600000 in
theorem s_BreakEven (v : Value) (n : Nat) (a : Nat → ByteArray) (b c d : Nat → Int) (x y : ByteArray) (W : World) (hs : Sl W v 4 n (gc a b c d)) (hx : Hid (∀ i, i < n → ((a i).size : Int) ≤ 1048576)) :
    Calls Try.prog 47 #[v, .string x, .string y] W fun e W' => e = .returned (.tuple #[.int .i64 (beAll n a b c d x y).1, .int .i64 (beAll n a b c d x y).2]) ∧ Below W.heap.size W W' := by
  have HA := Lib.hid (s_l18Ask v n a b c d true x W hs hx)
  have HB := Lib.hid (fun w hs => s_l18Ask v n a b c d true y w hs hx)
  have HF := Lib.hid (fun w hs => s_find v n a b c d x w hs)
  have HG := Lib.hid (fun w hs => s_find v n a b c d y w hs)
  have HS := hs
  obtain ⟨hn, ao, cap, rfl, hr⟩ := hs
  rcases fcode_cases n a b c d true x with ⟨r, hc, hx3⟩ | ⟨hc, -, h8, k, hk, hf, hb, hcc, hd⟩
  · have hR := Lib.hid (beAll_1 (y := y) hc hx3)
    rw [hc] at HA
    clear hc hr
    rcases hx3 with rfl | rfl | rfl
    all_goals
      go_enter Try.func47, Try.ntmps47
      go_wp2_with (go_at_call 84; refine HA.out.mono ?_; rintro e w1 ⟨rfl, hb1⟩)
      go_ret2
      exact ⟨by rw [hR.out]; rfl, hb1⟩
  · rcases fcode_cases n a b c d true y with ⟨r, hc2, hx3⟩ | ⟨hc2, -, -, l, hl, hg, hbl, hcl, hdl⟩
    · have hR := Lib.hid (beAll_2 hc hc2 hx3)
      rw [hc] at HA
      rw [hc2] at HB
      clear hc hc2 hr hf
      rcases hx3 with rfl | rfl | rfl
      all_goals
        go_enter Try.func47, Try.ntmps47
        go_wp2_with (first | (go_at_call 84; refine (HB.out _ (HS.kept hb1)).mono ?_; rintro e w2 ⟨rfl, hb2⟩) | (go_at_call 84; refine HA.out.mono ?_; rintro e w1 ⟨rfl, hb1⟩))
        go_ret2
        exact ⟨by rw [hR.out]; rfl, kept_trans hb1 hb2⟩
    · have hR := Lib.hid (beAll_3 hc hc2 hf hg)
      rw [hc] at HA
      rw [hc2] at HB
      rw [hf] at HF
      rw [hg] at HG
      clear hc hc2 hf hg
      rcases hr with h0 | ⟨g, off, rfl, hr⟩
      · omega
      have hr := Lib.hid hr
      have e7 : (k : Int) < n := by omega
      have e8 : (0 : Int) ≤ k := by omega
      have e9 : (l : Int) < n := by omega
      have e10 : (0 : Int) ≤ l := by omega
      generalize hB : beAll n a b c d x y = B at *
      clear hB
      have HH := Lib.hid (fun q (hq : q ≤ (c l).toNat) => beR_hit (p := bep (b k) (c k) (b l)) hq)
      have HM := Lib.hid (fun q (hq : q ≤ (c l).toNat) => beR_miss (p := bep (b k) (c k) (b l)) hq)
      have HE := Lib.hid (fun q (hq : (c l).toNat < q) => beR_end (p := bep (b k) (c k) (b l)) hq)
      have HP : Hid (∀ q : Nat, bep (b k) (c k) (b l) q = decide (b l < b k * (((q : Int) + c k - 1) / c k))) := Lib.hid (fun q => rfl)
      generalize bep (b k) (c k) (b l) = p at *
      go_enter Try.func47, Try.ntmps47
      go_wp2_with (first | (go_at_call 84; refine (HB.out _ (HS.kept hb1)).mono ?_; rintro e w2 ⟨rfl, hb2⟩) | (go_at_call 84; refine HA.out.mono ?_; rintro e w1 ⟨rfl, hb1⟩) | (go_at_call 85; have first2 := first1; refine (HG.out _ ((HS.kept hb1).kept hb2)).mono ?_; rintro e w' ⟨rfl, rfl⟩) | (go_at_call 85; have first1 : True := trivial; refine (HF.out _ ((HS.kept hb1).kept hb2)).mono ?_; rintro e w' ⟨rfl, rfl⟩))
      have KK := kept_trans hb1 hb2
      clear hb1 hb2 HA HB HF HG HS
      go_loopw [11] (fun i wr => ∃ q : Nat, 1 ≤ q ∧ (q : Int) ≤ c l + 1 ∧ i = .int .i64 q ∧ Below W.heap.size W wr ∧ Hid (B = beR p (c l).toNat q)) (fun i _ => (c l).toNat + 1 - (intOf i).toNat)
      case atStart => exact ⟨1, Nat.le_refl _, by omega, rfl, KK, hR.out⟩
      case round =>
        obtain ⟨q, hq1, hq2, rfl, hbr, hB⟩ := hrel
        obtain ⟨x0, x1, x2, x3⟩ := gccells (hr.out.kept hbr) hk
        obtain ⟨y0, y1, y2, y3⟩ := gccells (hr.out.kept hbr) hl
        clear hr KK
        by_cases hlt : (q : Int) ≤ c l
        · have BD := be_bd (k := q) (by omega) hb hcc
          have e1 : IntKind.i64.wrap ((q : Int) + c k) = q + c k := IntWalk.i64_in _ (by omega)
          have e2 : IntKind.i64.wrap ((q : Int) + c k - 1) = q + c k - 1 := IntWalk.i64_in _ (by omega)
          have e3 : ((q : Int) + c k - 1).tdiv (c k) = (q + c k - 1) / c k := Int.tdiv_eq_ediv_of_nonneg (by omega)
          have e4 : IntKind.i64.wrap (((q : Int) + c k - 1) / c k) = (q + c k - 1) / c k := IntWalk.i64_in _ (by omega)
          have e5 : (c k == 0) = false := by simp; omega
          have e6 : decide (c k = 0) = false := by simp; omega
          have e11 : IntKind.i64.wrap (((q : Int) + c k - 1) / c k * b k) = ((q : Int) + c k - 1) / c k * b k := IntWalk.i64_in _ (by rw [Int.mul_comm]; omega)
          cases hp : p q
          · have hB2 : Hid (B = beR p (c l).toNat (q + 1)) := by show _ = _; rw [hB.out]; exact HM.out q (by omega) hp
            have e12 : ¬ b l < ((q : Int) + c k - 1) / c k * b k := by
              have := HP.out q
              rw [hp] at this
              rw [Int.mul_comm]
              simpa using this.symm
            clear hp hB
            go_wp2_with fail
            go_quiet (fail)
            clear e1 e2 e3 e4 e5 e6 e11
            go_wp2_with fail
            go_roundw
            case rel => exact ⟨q + 1, by omega, by omega, by go_num, kept_drewN hbr _, hB2⟩
            case measure => simp [intOf]; omega
          · have hR2 : Hid (B = ((q : Int), 0)) := by show _ = _; rw [hB.out]; exact HH.out q (by omega) hp
            have e12 : b l < ((q : Int) + c k - 1) / c k * b k := by
              have := HP.out q
              rw [hp] at this
              rw [Int.mul_comm]
              simpa using this.symm
            clear hp hB
            go_wp2_with fail
            go_quiet (fail)
            clear e1 e2 e3 e4 e5 e6 e11
            go_wp2_with fail
            go_ret2
            exact ⟨by rw [hR2.out]; rfl, kept_drewN hbr _⟩
        · have hR2 : Hid (B = (0, 6)) := by show _ = _; rw [hB.out]; exact HE.out q (by omega)
          clear hB
          go_wp2_with fail
          go_ret2
          exact ⟨by rw [hR2.out]; rfl, hbr⟩


end Go.Proofs.Ytfnollbeeehpnaa
