/- The least room: the meaning, and the reference. -/
import Derived.Test.YtfnollbeeehpnaaRoom
import Derived.Deep.DeepCutAuto
import Derived.StillTailTactics
import Derived.IntWalk
namespace Go.Proofs.Ytfnollbeeehpnaa
open Go.RowKit Go.Deep
set_option linter.unusedVariables false
set_option maxRecDepth 100000

theorem region_tail_at {P : Program} {id : Nat} {Q : Exit → Act → World → Prop} {a : Act} {w : World} {l : List Oper} (n : Nat) (hm : P.follows .mixedOrders = true) (hB : Region.lexTailB .any l.toArray n = true) (w2 : World) (hw : w.drew = w2)
    (h : wpStill P l.toArray w2 (fun a' => wpList P l.toArray Q (l.drop n) a' w2) (l.take n) a) : (Code.region id l.toArray true).wp P Q a w := by
  subst hw
  exact wp_region_still_tail n hm hB h

theorem free_kept' {w w1 : World} {b o : Nat} (hl : b < w.heap.size) (h : w.frozen? ⟨b, o, none⟩ = false) (hb : Below w.heap.size w w1) : w1.frozen? ⟨b, o, none⟩ = false := free_keep' hb hl h
/-- The code of the least room: 1 where a group is not valid, 5 where the sum is no room, 0 else. -/
def lrC (ok : Bool) (P B K : Int) : Int := if ok = false then 1 else if vRoom P B K = false then 5 else 0
def lrV (x P B K : Int) : Value := .tuple #[.agg #[.int .i64 (if x = 0 then P else 0), .int .i64 (if x = 0 then B else 0), .int .i64 (if x = 0 then K else 0)], .int .i64 x]
theorem lrC_bad (P B K : Int) : lrC false P B K = 1 := rfl
theorem lrC_no {P B K : Int} (h : vRoom P B K = false) : lrC true P B K = 5 := by unfold lrC; rw [if_neg (by simp), if_pos h]
theorem lrC_yes {P B K : Int} (h : vRoom P B K = true) : lrC true P B K = 0 := by unfold lrC; rw [if_neg (by simp), if_neg (by rw [h]; simp)]
attribute [irreducible] lrC

/-- A room in a box, and that the box may be written. -/
def RoomAt (w : World) (g : Nat) (x y z : Int) : Prop := g < w.heap.size ∧ w.cell? ⟨g, 0, none⟩ = some (.int .i64 x) ∧ w.cell? ⟨g, 1, none⟩ = some (.int .i64 y) ∧ w.cell? ⟨g, 2, none⟩ = some (.int .i64 z) ∧ ∀ i, w.frozen? ⟨g, i, none⟩ = false
theorem RoomAt.kept {w w1 : World} {g : Nat} {x y z : Int} (h : RoomAt w g x y z) (hb : Below w.heap.size w w1) : RoomAt w1 g x y z := by
  obtain ⟨hl, h0, h1, h2, hf⟩ := h
  exact ⟨Nat.lt_of_lt_of_le hl hb.size, cell_keep hb h0, cell_keep hb h1, cell_keep hb h2, fun i => free_keep' hb hl (hf i)⟩
theorem RoomAt.new {w : World} {g : Nat} {x y z : Int} {t : TypeId} (hk : w.heap.size = g) : RoomAt (w.alloc (.cells #[.int .i64 x, .int .i64 y, .int .i64 z] t)) g x y z :=
  ⟨by subst hk; simp, boxed_at hk rfl, boxed_at hk rfl, boxed_at hk rfl, fun i => boxed_free' i hk⟩

theorem RoomAt.stored {w : World} {g : Nat} {x y z x1 y1 z1 : Int} (h : RoomAt w g x1 y1 z1) : RoomAt (((w.setCell ⟨g, 0, none⟩ (.int .i64 x)).setCell ⟨g, 1, none⟩ (.int .i64 y)).setCell ⟨g, 2, none⟩ (.int .i64 z)) g x y z := by
  obtain ⟨hl, h0, h1, h2, hf⟩ := h
  obtain ⟨y0, y1, y2⟩ := set3_at (v0 := .int .i64 x) (v1 := .int .i64 y) (v2 := .int .i64 z) h0 h1 h2
  exact ⟨by simpa using hl, y0, y1, y2, fun i => by simpa using hf i⟩

theorem RoomAt.set0 {w : World} {g : Nat} {x y z x1 : Int} (h : RoomAt w g x y z) : RoomAt (w.setCell ⟨g, 0, none⟩ (.int .i64 x1)) g x1 y z := by
  obtain ⟨hl, h0, h1, h2, hf⟩ := h
  exact ⟨by simpa using hl, World.cell?_setCell_same _ _ _ h0, (World.cell?_setCell_other _ _ _ _ (by simp)).trans h1, (World.cell?_setCell_other _ _ _ _ (by simp)).trans h2, fun i => by simpa using hf i⟩
theorem RoomAt.set1 {w : World} {g : Nat} {x y z x1 : Int} (h : RoomAt w g x y z) : RoomAt (w.setCell ⟨g, 1, none⟩ (.int .i64 x1)) g x x1 z := by
  obtain ⟨hl, h0, h1, h2, hf⟩ := h
  exact ⟨by simpa using hl, (World.cell?_setCell_other _ _ _ _ (by simp)).trans h0, World.cell?_setCell_same _ _ _ h1, (World.cell?_setCell_other _ _ _ _ (by simp)).trans h2, fun i => by simpa using hf i⟩
theorem RoomAt.set2 {w : World} {g : Nat} {x y z x1 : Int} (h : RoomAt w g x y z) : RoomAt (w.setCell ⟨g, 2, none⟩ (.int .i64 x1)) g x y x1 := by
  obtain ⟨hl, h0, h1, h2, hf⟩ := h
  exact ⟨by simpa using hl, (World.cell?_setCell_other _ _ _ _ (by simp)).trans h0, (World.cell?_setCell_other _ _ _ _ (by simp)).trans h1, World.cell?_setCell_same _ _ _ h2, fun i => by simpa using hf i⟩

set_option maxHeartbeats 3200000 in
theorem s_LeastRoom (v : Value) (n : Nat) (a : Nat → ByteArray) (b c d : Nat → Int) (W : World) (hs : Sl W v 4 n (gc a b c d)) (hx : Hid (∀ i, i < n → ((a i).size : Int) ≤ 1048576)) :
    Calls Try.prog 20 #[v] W fun e W' => e = .returned (lrV (lrC (vGroups n a b c d) (sumI b n) (sumI c n) (sumI (kgOf b c d) n)) (sumI b n) (sumI c n) (sumI (kgOf b c d) n)) ∧ Below W.heap.size W W' := by
  have KA := kept_alloc (Below.refl W.heap.size W) (.cells #[.int .i64 0, .int .i64 0, .int .i64 0] 30)
  have HSA := hs.kept KA
  have RA : RoomAt (W.alloc (.cells #[.int .i64 0, .int .i64 0, .int .i64 0] 30)) W.heap.size 0 0 0 := RoomAt.new rfl
  have HV := Lib.hid (fun w h => s_listGroup v n a b c d w h hx)
  cases hv : vGroups n a b c d
  · rw [hv] at HV
    rw [lrC_bad]
    obtain ⟨hl, z0, z1, z2, hf⟩ := RA
    obtain ⟨-, ao, cap, rfl, -⟩ := hs
    have F0 := hf 0
    have F1 := hf 1
    have F2 := hf 2
    clear hf
    go_enter Try.func20, Try.ntmps20
    go_wp2_with (go_at_call 59; refine (HV.out _ HSA).mono ?_; rintro e w1 ⟨rfl, hb1⟩; have z0 := cell_keep hb1 z0; have z1 := cell_keep hb1 z1; have z2 := cell_keep hb1 z2; have F0 := free_keep' hb1 hl F0; have F1 := free_keep' hb1 hl F1; have F2 := free_keep' hb1 hl F2)
    obtain ⟨y0, y1, y2⟩ := set3_at (v0 := .int .i64 0) (v1 := .int .i64 0) (v2 := .int .i64 0) z0 z1 z2
    refine bodyPost_ret (v := .tuple #[.agg #[.int .i64 0, .int .i64 0, .int .i64 0], .int .i64 1]) (by simp [results, go_sem, y0, y1, y2]) rfl ⟨rfl, kept_set (kept_set (kept_set (kept_trans KA hb1) (by simp) _) (by simp) _) (by simp) _⟩
  · rw [hv] at HV
    obtain ⟨hn12, hvi⟩ := vGroups_out hv
    have HB : Hid (∀ i, i < n → (1 ≤ b i ∧ b i ≤ 200) ∧ (0 ≤ c i ∧ c i ≤ 40) ∧ (0 ≤ d i ∧ d i ≤ 100000)) := fun i hi => (vGr_out (hvi i hi)).2
    have SP : Hid (∀ k, k ≤ n → 0 ≤ sumI b k ∧ sumI b k ≤ k * 200) := sumI_bd fun i hi => by have := HB.out i hi; omega
    have SB : Hid (∀ k, k ≤ n → 0 ≤ sumI c k ∧ sumI c k ≤ k * 40) := sumI_bd fun i hi => by have := HB.out i hi; omega
    have SK : Hid (∀ k, k ≤ n → 0 ≤ sumI (kgOf b c d) k ∧ sumI (kgOf b c d) k ≤ k * 115600) := sumI_bd fun i hi => by have := HB.out i hi; unfold kgOf; omega
    have N1 : Hid (∀ k, sumI b (k + 1) = sumI b k + b k) := fun _ => rfl
    have N2 : Hid (∀ k, sumI c (k + 1) = sumI c k + c k) := fun _ => rfl
    have N3 : Hid (∀ k, sumI (kgOf b c d) (k + 1) = sumI (kgOf b c d) k + (75 * b k + 15 * c k + d k)) := fun _ => rfl
    have Z1 : sumI b 0 = 0 := rfl
    have Z2 : sumI c 0 = 0 := rfl
    have Z3 : sumI (kgOf b c d) 0 = 0 := rfl
    clear hvi hv
    generalize sumI b = sp at *
    generalize sumI c = sb at *
    generalize sumI (kgOf b c d) = sk at *
    obtain ⟨hn, ao, cap, rfl, hr⟩ := hs
    go_enter Try.func20, Try.ntmps20
    go_wp2_with (go_at_call 59; refine (HV.out _ HSA).mono ?_; rintro e w1 ⟨rfl, hb1⟩)
    have HSA1 := (HSA.kept hb1)
    clear HSA HV
    go_loopw [5] (fun i wr => ∃ k : Nat, k ≤ n ∧ i = .int .i64 k ∧ Below w1.heap.size w1 wr ∧ RoomAt wr w1.heap.size (sp k) (sb k) (sk k)) (fun i _ => n - (intOf i).toNat)
    case atStart =>
      refine ⟨0, by omega, rfl, kept_alloc (Below.refl _ _) _, ?_⟩
      rw [Z1, Z2, Z3]
      exact RoomAt.new rfl
    case round =>
      obtain ⟨k, hk, rfl, hb, hq⟩ := hrel
      by_cases hlt : k < n
      · have hsk := HSA1.kept hb
        rcases hr with h0 | ⟨g, off, rfl, hr⟩
        · omega
        obtain ⟨t0, t1, t2, t3⟩ := gccells (hr.kept (kept_trans KA hb1)) hlt
        have e1 : (k : Int) < n := by omega
        have e2 : (0 : Int) ≤ k := by omega
        obtain ⟨hbk, hck, hdk⟩ := HB.out k hlt
        have bp := SP.out k hk
        have bb := SB.out k hk
        have bk := SK.out k hk
        have v1 : IntKind.i64.wrap (sp k + b k) = sp k + b k := IntWalk.i64_in _ (by omega)
        have v2 : IntKind.i64.wrap (sb k + c k) = sb k + c k := IntWalk.i64_in _ (by omega)
        have v3 : IntKind.i64.wrap (sk k + (75 * b k + 15 * c k + d k)) = sk k + (75 * b k + 15 * c k + d k) := IntWalk.i64_in _ (by omega)
        have T0 := Lib.hid t0
        have T1 := Lib.hid t1
        have T2 := Lib.hid t2
        have T3 := Lib.hid t3
        clear hr hsk t0 t1 t2 t3
        go_upto_region 7 with (fail)
        go_cut [] (fun wx => Below w1.heap.size w1 wx ∧ RoomAt wx w1.heap.size (sp k + b k) (sb k) (sk k))
        case first =>
          obtain ⟨w6, HW⟩ : ∃ w6, Hid (wr.drew = w6) := ⟨_, rfl⟩
          have K6 : Below wr.heap.size wr w6 := by rw [← HW.out]; exact kept_drew (Below.refl _ _)
          have HQ := Lib.hid (hq.kept K6)
          have HB6 := Lib.hid (kept_trans hb K6)
          have q0 := HQ.out.2.1
          have f0 := HQ.out.2.2.2.2 0
          have t1 := cell_keep HB6.out T1.out
          clear v2 v3 hq hb K6
          refine region_tail_at 9 (by kernel_rfl) (by kernel_rfl) w6 HW.out ?_
          simp only [List.take_succ_cons, List.take_zero, List.drop_succ_cons, List.drop_zero]
          repeat still_step
          refine wpStill_nil ?_
          go_wp2_with fail
          go_meet
          exact ⟨kept_set HB6.out (by simp) _, HQ.out.set0⟩
        case rest =>
          obtain ⟨hb7, hq7⟩ := hcut
          clear hb hq v1
          go_upto_region 8 with (fail)
          go_cut [] (fun wx => Below w1.heap.size w1 wx ∧ RoomAt wx w1.heap.size (sp k + b k) (sb k + c k) (sk k))
          case first =>
            obtain ⟨w6, HW⟩ : ∃ w6, Hid (wc.drew = w6) := ⟨_, rfl⟩
            have K6 : Below wc.heap.size wc w6 := by rw [← HW.out]; exact kept_drew (Below.refl _ _)
            have HQ := Lib.hid (hq7.kept K6)
            have HB6 := Lib.hid (kept_trans hb7 K6)
            have q0 := HQ.out.2.2.1
            have f0 := HQ.out.2.2.2.2 1
            have t1 := cell_keep HB6.out T2.out
            clear v3 hq7 hb7 K6
            refine region_tail_at 9 (by kernel_rfl) (by kernel_rfl) w6 HW.out ?_
            simp only [List.take_succ_cons, List.take_zero, List.drop_succ_cons, List.drop_zero]
            repeat still_step
            refine wpStill_nil ?_
            go_wp2_with fail
            go_meet
            exact ⟨kept_set HB6.out (by simp) _, HQ.out.set1⟩
          case rest =>
            obtain ⟨hb8, hq8⟩ := hcut
            clear hb7 hq7 v2
            have HQ := Lib.hid hq8
            have HB8 := Lib.hid hb8
            have q0 := hq8.2.2.2.1
            have f0 := hq8.2.2.2.2 2
            have hl8 := hq8.1
            clear hq8
            go_upto_region 9 with (fail)
            go_region_with (first | (go_at_call 63; refine (s_l17Kilos (a k) (b k) (c k) (d k) _ _ _ hbk hck hdk (cell_kept T1.out (by repeat (first | assumption | exact Below.refl _ _ | refine kept_drew ?_ | refine kept_set ?_ (by simp) _ | refine kept_trans ?_ (by assumption)))) (cell_kept T2.out (by repeat (first | assumption | exact Below.refl _ _ | refine kept_drew ?_ | refine kept_set ?_ (by simp) _ | refine kept_trans ?_ (by assumption)))) (cell_kept T3.out (by repeat (first | assumption | exact Below.refl _ _ | refine kept_drew ?_ | refine kept_set ?_ (by simp) _ | refine kept_trans ?_ (by assumption))))).mono ?_; rintro e x1 ⟨rfl, hbx1⟩; have p0 := cell_kept (w1 := x1) HQ.out.2.2.2.1 (by repeat (first | assumption | exact Below.refl _ _ | refine kept_drew ?_ | refine kept_trans ?_ (by assumption))); have p1 := free_kept' (w1 := x1) HQ.out.1 (HQ.out.2.2.2.2 2) (by repeat (first | assumption | exact Below.refl _ _ | refine kept_drew ?_ | refine kept_trans ?_ (by assumption)))))
            all_goals
              go_wp2_with fail
              go_roundw
              case rel => exact ⟨k + 1, by omega, by go_num, (by repeat (first | assumption | exact Below.refl _ _ | refine kept_drew ?_ | refine kept_set ?_ (by simp) _ | refine kept_trans ?_ (by assumption))), by rw [N1.out, N2.out, N3.out]; exact (HQ.out.kept (by repeat (first | assumption | exact Below.refl _ _ | refine kept_drew ?_ | refine kept_trans ?_ (by assumption)))).set2⟩
              case measure => simp [intOf]; omega
      · obtain rfl : k = n := by omega
        have hq2 := (RA.kept hb1).kept hb
        have hne : W.heap.size ≠ w1.heap.size := by have := hb1.size; simp at this; omega
        have HP := Lib.hid (fun w c0 c1 c2 => s_l17Room (sp k) (sb k) (sk k) w1.heap.size w c0 c1 c2)
        obtain ⟨hl, q0, q1, q2, hf⟩ := hq
        obtain ⟨hl', z0, z1, z2, hf'⟩ := hq2
        have g0 := hf' 0
        have g1 := hf' 1
        have g2 := hf' 2
        clear hf hf' HB SP SB SK N1 N2 N3
        cases hvr : vRoom (sp k) (sb k) (sk k)
        · rw [hvr] at HP
          have hR := Lib.hid (lrC_no hvr)
          go_wp2_with (go_at_call 64; refine (HP.out _ q0 q1 q2).mono ?_; rintro e w2 ⟨rfl, rfl⟩)
          obtain ⟨y0, y1, y2⟩ := set3_at (v0 := .int .i64 0) (v1 := .int .i64 0) (v2 := .int .i64 0) z0 z1 z2
          refine bodyPost_ret (v := .tuple #[.agg #[.int .i64 0, .int .i64 0, .int .i64 0], .int .i64 5]) (by simp [results, go_sem, y0, y1, y2]) rfl ⟨by rw [hR.out]; rfl, kept_set (kept_set (kept_set (kept_trans (kept_trans KA hb1) hb) (by simp) _) (by simp) _) (by simp) _⟩
        · rw [hvr] at HP
          have hR := Lib.hid (lrC_yes hvr)
          go_wp2_with (go_at_call 64; refine (HP.out _ q0 q1 q2).mono ?_; rintro e w2 ⟨rfl, rfl⟩)
          obtain ⟨y0, y1, y2⟩ := set3_at (v0 := .int .i64 (sp k)) (v1 := .int .i64 (sb k)) (v2 := .int .i64 (sk k)) z0 z1 z2
          refine bodyPost_ret (v := .tuple #[.agg #[.int .i64 (sp k), .int .i64 (sb k), .int .i64 (sk k)], .int .i64 0]) (by simp [results, go_sem, y0, y1, y2]) rfl ⟨by rw [hR.out]; rfl, kept_set (kept_set (kept_set (kept_trans (kept_trans KA hb1) hb) (by simp) _) (by simp) _) (by simp) _⟩

end Go.Proofs.Ytfnollbeeehpnaa
