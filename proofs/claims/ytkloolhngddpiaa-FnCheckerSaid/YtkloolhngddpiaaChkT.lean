/- A drawn state of the controller: nothing is said of it but that it is valid. -/
import Derived.Test.YtkloolhngddpiaaChkS
import Derived.Test.YtkloolhngddpiaaOpenSt
import Derived.Deep.DeepCutAuto
import Derived.Deep.RegionHeld3
namespace Go.Proofs.Ytkloolhngddpiaa
open Go.RowKit Go.Deep
set_option linter.unusedVariables false
set_option maxRecDepth 100000

theorem s_l13First (W : World) : Calls Try.prog 121 #[] W fun en W' => en = .returned (.agg #[.int .i64 0, .bool false, .bool false, .bool false, .bool true]) ∧ Below W.heap.size W W' := by
  go_enter Try.func121, Try.ntmps121
  go_wp2
  refine bodyPost_ret (v := .agg #[.int .i64 0, .bool false, .bool false, .bool false, .bool true]) (by simp [results, go_sem]) rfl ⟨rfl, (by repeat (first | assumption | exact Below.refl _ _ | refine kept_drew ?_ | refine kept_drewN ?_ _ | refine kept_alloc ?_ _ | refine kept_set ?_ ?_ _ | (simp; done) | (simp; omega) | refine kept_trans ?_ (by assumption)))⟩
theorem i_FirstState (W : World) : Calls Try.prog 56 #[] W fun en W' => en = .returned (.agg #[.int .i64 0, .bool false, .bool false, .bool false, .bool true]) ∧ Below W.heap.size W W' := by
  go_enter Try.func56, Try.ntmps56
  go_wp2
  refine bodyPost_ret (v := .agg #[.int .i64 0, .bool false, .bool false, .bool false, .bool true]) (by simp [results, go_sem]) rfl ⟨rfl, (by repeat (first | assumption | exact Below.refl _ _ | refine kept_drew ?_ | refine kept_drewN ?_ _ | refine kept_alloc ?_ _ | refine kept_set ?_ ?_ _ | (simp; done) | (simp; omega) | refine kept_trans ?_ (by assumption)))⟩

/-- A state's box. -/
def StAt (w : World) (g c : Nat) : Prop := Box5 w g (.int .i64 (cm c : Nat)) (.bool (co c)) (.bool (ca c)) (.bool (cb c)) (.bool (ce c))

theorem s_l13Next_any (c j : Nat) (W : World) (hc : c < 80) (hj : j < 9) :
    Calls Try.prog 104 #[.agg #[.int .i64 (cm c : Nat), .bool (co c), .bool (ca c), .bool (cb c), .bool (ce c)], .int .i64 (IntKind.i64.wrap (1 + (j : Int)))] W fun en W' => ∃ (y : Nat) (B : Bool), en = .returned (.tuple #[.agg #[.int .i64 (cm y : Nat), .bool (co y), .bool (ca y), .bool (cb y), .bool (ce y)], .bool B]) ∧ y < 80 ∧ Below W.heap.size W W' := by
  rw [IntWalk.i64_in _ (by omega), show (1 + (j : Int)) = ((j + 1 : Nat) : Int) by omega]
  cases ha : al c (j + 1)
  · exact (s_l13Next_no c (j + 1) W hc (by omega) ha).mono fun _ _ ⟨h1, h2⟩ => ⟨c, false, h1, hc, h2⟩
  · exact (s_l13Next_yes c (j + 1) W hc (by omega) ha).mono fun _ _ ⟨h1, h2⟩ => ⟨nx c (j + 1), true, h1, nx_lt hc (by omega), h2⟩

def CtlPost (g : Nat) (b : Int) (W : World) (en : Ending) (w' : World) : Prop := ∃ c : Nat, en = .returned (.agg #[.int .i64 (cm c : Nat), .bool (co c), .bool (ca c), .bool (cb c), .bool (ce c)]) ∧ c < 80 ∧ W.grownBy w' (some g) ∧ SrcAt w' g b

set_option maxHeartbeats 16000000 in
theorem d_Control (g : Nat) (b : Int) (W : World) (h : SrcAt W g b) (hb : b ≤ 800000000) : Calls Try.prog 101 #[.pointer (some ⟨g, 0, none⟩)] W (CtlPost g (b + 100) W) := by
  have HP : Hid (∀ w c m, SrcAt w g c → c ≤ b + 100 → (1 ≤ m ∧ m ≤ 65536) → Calls Try.prog 122 #[.pointer (some ⟨g, 0, none⟩), .int .i64 m] w fun e w' => ∃ x : Int, e = .returned (.int .i64 x) ∧ (0 ≤ x ∧ x < m) ∧ w.grownBy w' (some g) ∧ SrcAt w' g (c + 2)) := fun w c m h1 h2 h3 => src_pick g c m w h1 (by omega) h3
  have HO : Hid (∀ w c m, SrcAt w g c → c ≤ b + 100 → (1 ≤ m ∧ m ≤ 65536) → Calls Try.prog 120 #[.pointer (some ⟨g, 0, none⟩), .int .i64 m] w fun e w' => ∃ B : Bool, e = .returned (.bool B) ∧ w.grownBy w' (some g) ∧ SrcAt w' g (c + 2)) := fun w c m h1 h2 h3 => src_one g c m w h1 (by omega) h3
  have hgl := h.1
  have HS0 : Hid (SrcAt (W.alloc (.cells #[.int .i64 0, .bool false, .bool false, .bool false, .bool false] 53)) g b) := h.kept (kept_alloc (Below.refl _ _) _)
  have r0 := Box5.new W (.int .i64 0) (.bool false) (.bool false) (.bool false) (.bool false) 53
  have G0 : W.grownBy (W.alloc (.cells #[.int .i64 0, .bool false, .bool false, .bool false, .bool false] 53)) (some g) := grown_alloc (grown_refl _ _) _
  clear h
  unfold CtlPost
  go_enter Try.func101, Try.ntmps101
  go_wp2_with (go_at_call 120; refine (HO.out _ _ _ HS0.out (by omega) (by omega)).mono ?_; rintro e w1 ⟨B, rfl, hg1, hs1⟩; have G1 := grown_trans G0 hg1; have r1 := r0.grown hg1 (by omega))
  · go_upto_region 3 with (go_at_call 121; refine (s_l13First _).mono ?_; rintro e w2 ⟨rfl, hb2⟩)
    have G2 := grown_alloc (grown_trans G1 (grown_of_below hb2 (some g))) (.cells #[.int .i64 0, .bool false, .bool false, .bool false, .bool true] 53)
    have r2 := (r1.kept hb2).kept (kept_alloc (Below.refl w2.heap.size w2) (.cells #[.int .i64 0, .bool false, .bool false, .bool false, .bool true] 53))
    have rX : StAt (w2.alloc (.cells #[.int .i64 0, .bool false, .bool false, .bool false, .bool true] 53)) w2.heap.size 8 := Box5.new w2 _ _ _ _ _ _
    have hs2 := (hs1.kept hb2).kept (kept_alloc (Below.refl w2.heap.size w2) (.cells #[.int .i64 0, .bool false, .bool false, .bool false, .bool true] 53))
    have hz2 : g < w2.heap.size ∧ W.heap.size < w2.heap.size := ⟨(hs1.kept hb2).1, (r1.kept hb2).1⟩
    generalize w2.heap.size = bx at *
    generalize w2.alloc (.cells #[.int .i64 0, .bool false, .bool false, .bool false, .bool true] 53) = wX at *
    clear r0 r1 G0 G1 HS0 hs1 hg1 hb2
    go_upto_region 4 with (go_at_call 122; refine (HP.out _ _ _ hs2 (by omega) (by omega)).mono ?_; rintro e w4 ⟨x4, rfl, hx4, hg4, hs4⟩)
    have G4 := grown_trans G2 hg4
    have r4 := r2.grown hg4 (by omega)
    have rX4 : StAt w4 bx 8 := Box5.grown rX hg4 (by omega)
    have hs5 : SrcAt w4 g (b + 40 - 2 * x4) := hs4.le (by omega)
    obtain ⟨m, rfl, hm⟩ : ∃ m : Nat, x4 = m ∧ m ≤ 11 := ⟨x4.toNat, by omega, by omega⟩
    clear G2 r2 rX hs2 hs4 hg4 hx4
    go_loopw [4] (fun u wr => ∃ k c : Nat, k ≤ 11 ∧ c < 80 ∧ u = .int .i64 k ∧ W.grownBy wr (some g) ∧ Box5 wr W.heap.size (.int .i64 0) (.bool false) (.bool false) (.bool false) (.bool false) ∧ StAt wr bx c ∧ SrcAt wr g (b + 40 - 2 * k)) (fun u _ => (intOf u).toNat)
    case atStart => exact ⟨m, 8, hm, by omega, rfl, G4, r4, rX4, hs5⟩
    case round =>
      clear G4 r4 rX4 hs5
      obtain ⟨k, c, hk, hc, rfl, G, r, rX, hs⟩ := hrel
      by_cases h0 : k = 0
      · subst h0
        obtain ⟨-, q0, q1, q2, q3, q4, -⟩ := id rX
        obtain ⟨-, y0, y1, y2, y3, y4, yf⟩ := id r
        have f0 := yf 0
        have f1 := yf 1
        have f2 := yf 2
        have f3 := yf 3
        have f4 := yf 4
        go_wp2
        refine bodyPost_ret (v := .agg #[.int .i64 (cm c : Nat), .bool (co c), .bool (ca c), .bool (cb c), .bool (ce c)]) (by simp [results, go_sem, y0, y1, y2, y3, y4]) rfl ⟨c, rfl, hc, ?_, ?_⟩
        · exact grown_put G (Nat.le_refl _) _ _ _ _ _
        · exact (hs.put hgl _ _ _ _ _).le (by omega)
      · have hk0 : 0 < (k : Int) := by omega
        have HN := Lib.hid (fun j w (hj : j < 9) => s_l13Next_any c j w hc hj)
        have hbz : bx < wr.heap.size := rX.1
        have hgw : g < wr.heap.size := hs.1
        have hwr : W.heap.size < wr.heap.size := r.1
        obtain ⟨-, q0, q1, q2, q3, q4, -⟩ := id rX
        go_upto_region 6 with (fail)
        go_cut [5, 6] (fun p q wx => ∃ (b5 y : Nat) (B : Bool), p = .pointer (some ⟨b5, 0, none⟩) ∧ q = .bool B ∧ y < 80 ∧ b5 ≠ bx ∧ W.grownBy wx (some g) ∧ Box5 wx W.heap.size (.int .i64 0) (.bool false) (.bool false) (.bool false) (.bool false) ∧ StAt wx bx c ∧ StAt wx b5 y ∧ SrcAt wx g (b + 40 - 2 * k + 2))
        case first =>
          skip
          go_region_with (first
            | (go_at_call 122; go_loud (refine (HP.out _ _ _ (by first | exact hs | exact hs.kept (kept_drew (Below.refl _ _)) | exact hs.kept (kept_drew (kept_alloc (Below.refl _ _) _)) | exact hs.kept (kept_alloc (kept_drew (Below.refl _ _)) _)) (by omega) (by omega)).mono ?_; rintro e w8 ⟨x8, rfl, hx8, hg8, hs8⟩; obtain ⟨j, rfl, hj⟩ : ∃ j : Nat, x8 = j ∧ j < 9 := ⟨x8.toNat, by omega, by omega⟩; have A8 : ∃ X, Below wr.heap.size wr X ∧ X.grownBy w8 (some g) := ⟨_, by first | exact Below.refl _ _ | exact kept_drew (Below.refl _ _) | exact kept_drew (kept_alloc (Below.refl _ _) _) | exact kept_alloc (kept_drew (Below.refl _ _)) _, hg8⟩; obtain ⟨X, hX, hgX⟩ := A8; have G8 := grown_trans (grown_trans G (grown_of_below hX (some g))) hgX; have r8 := (r.kept hX).grown hgX (by omega); have rX8 := (Box5.kept rX hX).grown hgX (by omega); have hw8 := r8.1; have hgs8 := hs8.1; obtain ⟨hz8, p0, p1, p2, p3, p4, -⟩ := id rX8; have n0 := fun o => cell_keep (kept_alloc (Below.refl w8.heap.size w8) o) p0; have n1 := fun o => cell_keep (kept_alloc (Below.refl w8.heap.size w8) o) p1; have n2 := fun o => cell_keep (kept_alloc (Below.refl w8.heap.size w8) o) p2; have n3 := fun o => cell_keep (kept_alloc (Below.refl w8.heap.size w8) o) p3; have n4 := fun o => cell_keep (kept_alloc (Below.refl w8.heap.size w8) o) p4; try (have rT8 := ((Box5.new wr (.int .i64 0) (.bool false) (.bool false) (.bool false) (.bool false) 53).kept (kept_drew (Below.refl _ _))).grown hg8 (by omega))))
            | (go_at_call 104; go_loud (refine (HN.out j _ hj).mono ?_; rintro e w9 ⟨y, B, rfl, hy, hb9⟩; have hW : Below w8.heap.size w8 w9 := (by first | exact hb9 | exact kept_trans (kept_drew (Below.refl _ _)) hb9 | exact kept_trans (kept_alloc (Below.refl _ _) _) hb9 | exact kept_trans (kept_alloc (kept_drew (Below.refl _ _)) _) hb9); have G9 := grown_trans G8 (grown_of_below hW (some g)); have r9 := r8.kept hW; have rX9 := Box5.kept rX8 hW; have hs9 := hs8.kept hW; have hz9 := rX9.1; have hw9 := r9.1; have hgs9 := hs9.1; try (first | have rT := rT8.kept hb9 | have rT := (Box5.new w8 (.int .i64 0) (.bool false) (.bool false) (.bool false) (.bool false) 53).kept hb9); try (obtain ⟨-, t0, t1, t2, t3, t4, tf⟩ := id rT; have tf0 := tf 0; have tf1 := tf 1; have tf2 := tf 2; have tf3 := tf 3; have tf4 := tf 4))))
          all_goals
            go_wp2_with fail
            go_meet
            first
              | (have hT := rT; clear hT; exact ⟨_, y, B, rfl, rfl, hy, by omega, grown_put G9 (by omega) _ _ _ _ _, r9.other5 (by omega) _ _ _ _ _, Box5.other5 rX9 (by omega) _ _ _ _ _, Box5.put rT _ _ _ _ _, (hs9.put (by omega) _ _ _ _ _).le (by omega)⟩)
              | exact ⟨_, y, B, rfl, rfl, hy, by omega, grown_alloc G9 _, r9.kept (kept_alloc (Below.refl _ _) _), Box5.kept rX9 (kept_alloc (Below.refl _ _) _), Box5.new w9 _ _ _ _ _ _, (hs9.kept (kept_alloc (Below.refl _ _) _)).le (by omega)⟩
        case rest =>
          obtain ⟨b5, y, B, rfl, rfl, hy, hne, Gc, rc, rXc, rY, hsc⟩ := hcut
          clear G r rX hs
          cases B
          · go_wp2
            go_roundw
            case rel => exact ⟨k - 1, c, by omega, hc, by congr 1; omega, Gc, rc, rXc, hsc.le (by omega)⟩
            case measure => simp [intOf]; omega
          · obtain ⟨-, t0, t1, t2, t3, t4, -⟩ := id rY
            obtain ⟨hbx, p0, p1, p2, p3, p4, pf⟩ := id rXc
            have f0 := pf 0
            have f1 := pf 1
            have f2 := pf 2
            have f3 := pf 3
            have f4 := pf 4
            go_wp2
            go_roundw
            case rel => exact ⟨k - 1, y, by omega, hy, by congr 1; omega, grown_put Gc (by omega) _ _ _ _ _, rc.other5 (by omega) _ _ _ _ _, Box5.put rXc _ _ _ _ _, (hsc.put (by omega) _ _ _ _ _).le (by omega)⟩
            case measure => simp [intOf]; omega
  · go_upto_region 11 with (first
      | (go_at_call 120; refine (HO.out _ _ _ hs2 (by omega) (by omega)).mono ?_; rintro e w3 ⟨o, rfl, hg3, hs3⟩)
      | (go_at_call 122; refine (HP.out _ _ _ hs1 (by omega) (by omega)).mono ?_; rintro e w2 ⟨x2, rfl, hx2, hg2, hs2⟩))
    have G3 := grown_alloc (grown_trans (grown_trans G1 hg2) hg3) (.cells #[.int .i64 x2, .bool o, .bool false, .bool false, .bool false] 53)
    have r3 := ((r1.grown hg2 (by omega)).grown hg3 (by omega)).kept (kept_alloc (Below.refl w3.heap.size w3) (.cells #[.int .i64 x2, .bool o, .bool false, .bool false, .bool false] 53))
    have rB := Box5.new w3 (.int .i64 x2) (.bool o) (.bool false) (.bool false) (.bool false) 53
    have hs4 := hs3.kept (kept_alloc (Below.refl w3.heap.size w3) (.cells #[.int .i64 x2, .bool o, .bool false, .bool false, .bool false] 53))
    have hz3 : g < w3.heap.size ∧ W.heap.size < w3.heap.size := ⟨hs3.1, ((r1.grown hg2 (by omega)).grown hg3 (by omega)).1⟩
    clear r0 r1 G0 G1 HS0 hs1 hs2 hs3 hg1 hg2 hg3
    go_upto_region 12 with (go_at_call 120; refine (HO.out _ _ _ hs4 (by omega) (by omega)).mono ?_; rintro e w4 ⟨a, rfl, hg4, hs5⟩; have rB4 := rB.grown hg4 (by omega); obtain ⟨-, q0, q1, q2, q3, q4, qf⟩ := id rB4; have qf2 := qf 2)
    have G4 := grown_store (grown_trans G3 hg4) (show W.heap.size ≤ w3.heap.size by omega) 2 (.bool a)
    have r4 := (r3.grown hg4 (by omega)).other (show w3.heap.size ≠ W.heap.size by omega) 2 (.bool a)
    have rB5 := rB4.set2 (.bool a)
    have hs6 := hs5.store hz3.1 2 (.bool a)
    clear r3 G3 hs4 rB rB4 q0 q1 q2 q3 q4 qf qf2 hg4 hs5
    generalize w4.setCell ⟨w3.heap.size, 2, none⟩ (.bool a) = w5 at *
    go_upto_region 13 with (go_at_call 120; refine (HO.out _ _ _ hs6 (by omega) (by omega)).mono ?_; rintro e w6 ⟨bb, rfl, hg4, hs5⟩; have rB4 := rB5.grown hg4 (by omega); obtain ⟨-, q0, q1, q2, q3, q4, qf⟩ := id rB4; have qf2 := qf 3)
    have G5 := grown_store (grown_trans G4 hg4) (show W.heap.size ≤ w3.heap.size by omega) 3 (.bool bb)
    have r5 := (r4.grown hg4 (by omega)).other (show w3.heap.size ≠ W.heap.size by omega) 3 (.bool bb)
    have rB6 := rB4.set3 (.bool bb)
    have hs7 := hs5.store hz3.1 3 (.bool bb)
    clear r4 G4 hs6 rB5 rB4 q0 q1 q2 q3 q4 qf qf2 hg4 hs5
    generalize w6.setCell ⟨w3.heap.size, 3, none⟩ (.bool bb) = w7 at *
    go_upto_region 14 with (go_at_call 120; refine (HO.out _ _ _ hs7 (by omega) (by omega)).mono ?_; rintro e w8 ⟨ee, rfl, hg4, hs5⟩; have rB4 := rB6.grown hg4 (by omega); obtain ⟨-, q0, q1, q2, q3, q4, qf⟩ := id rB4; have qf2 := qf 4)
    have G6 := grown_store (grown_trans G5 hg4) (show W.heap.size ≤ w3.heap.size by omega) 4 (.bool ee)
    have r6 := (r5.grown hg4 (by omega)).other (show w3.heap.size ≠ W.heap.size by omega) 4 (.bool ee)
    have rB7 := rB4.set4 (.bool ee)
    have hs8 := hs5.store hz3.1 4 (.bool ee)
    clear r5 G5 hs7 rB6 rB4 q0 q1 q2 q3 q4 qf qf2 hg4 hs5
    generalize w8.setCell ⟨w3.heap.size, 4, none⟩ (.bool ee) = w9 at *
    obtain ⟨-, m0, m1, m2, m3, m4, -⟩ := id rB7
    obtain ⟨-, y0, y1, y2, y3, y4, yf⟩ := id r6
    have f0 := yf 0
    have f1 := yf 1
    have f2 := yf 2
    have f3 := yf 3
    have f4 := yf 4
    obtain ⟨c, hc, e0, e1, e2, e3, e4⟩ := st_code (m := x2) (o := o) (a := a) (b := bb) (e := ee) (by omega) (by omega)
    go_wp2
    refine bodyPost_ret (v := .agg #[.int .i64 x2, .bool o, .bool a, .bool bb, .bool ee]) (by simp [results, go_sem, y0, y1, y2, y3, y4]) rfl ⟨c, by rw [e0, e1, e2, e3, e4], hc, ?_, ?_⟩
    · exact grown_put G6 (Nat.le_refl _) _ _ _ _ _
    · exact (hs8.put hgl _ _ _ _ _).le (by omega)

end Go.Proofs.Ytkloolhngddpiaa
