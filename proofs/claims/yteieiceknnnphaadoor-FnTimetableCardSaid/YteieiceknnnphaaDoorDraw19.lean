/- A drawn timetable: the reference's l19Draw and R8Timetable. What is drawn is a valid timetable of a few rides. -/
import Derived.Test.YteieiceknnnphaaDoorSrcFrom
import Derived.Test.YteieiceknnnphaaDoorTable
import Derived.Deep.DeepMust
import Derived.Deep.RegionHeld3
import Derived.Maps.AppendAt
namespace Go.Proofs.YteieiceknnnphaaDoor
open Go.RowKit Go.Deep
set_option linter.unusedVariables false
set_option maxRecDepth 100000

def updF (j : Nat) (x : Int) (f : Nat → Int) : Nat → Int := fun i => if i = j then x else f i
theorem updF_at (j : Nat) (x : Int) (f : Nat → Int) : updF j x f j = x := by unfold updF; rw [if_pos rfl]
theorem updF_ne {i j : Nat} (x : Int) (f : Nat → Int) (h : i ≠ j) : updF j x f i = f i := by unfold updF; rw [if_neg h]
/-- Rides that have been drawn, the next one leaving at a. -/
def DrawnTo (j : Nat) (lv tk : Nat → Int) (a : Int) : Prop := (300 ≤ a ∧ a ≤ 499 + 23 * j) ∧ ∀ i, i < j → 300 ≤ lv i ∧ 4 ≤ tk i ∧ tk i ≤ 9 ∧ lv i + tk i ≤ a ∧ (0 < i → lv (i - 1) + tk (i - 1) ≤ lv i)
theorem drawn_zero {a : Int} (h : 300 ≤ a ∧ a ≤ 499) (lv tk : Nat → Int) : DrawnTo 0 lv tk a := ⟨by omega, fun i hi => absurd hi (by omega)⟩
theorem drawn_step {j : Nat} {lv tk : Nat → Int} {a t x : Int} (h : DrawnTo j lv tk a) (ht : 4 ≤ t ∧ t ≤ 9) (hx : 0 ≤ x ∧ x ≤ 14) : DrawnTo (j + 1) (updF j a lv) (updF j t tk) (a + (t + x)) := by
  refine ⟨by have := h.1; omega, fun i hi => ?_⟩
  by_cases e : i = j
  · subst e
    rw [updF_at, updF_at]
    refine ⟨h.1.1, ht.1, ht.2, by omega, fun h0 => ?_⟩
    rw [updF_ne _ _ (by omega), updF_ne _ _ (by omega)]
    exact (h.2 (i - 1) (by omega)).2.2.2.1
  · have h2 := h.2 i (by omega)
    rw [updF_ne _ _ e, updF_ne _ _ e]
    refine ⟨h2.1, h2.2.1, h2.2.2.1, by omega, fun h0 => ?_⟩
    rw [updF_ne _ _ (by omega), updF_ne _ _ (by omega)]
    exact h2.2.2.2.2 h0
theorem drawn_rc {j : Nat} {lv tk : Nat → Int} {a t : Int} {i : Nat} (h : i < j * 2) : rc lv tk i = rc (updF j a lv) (updF j t tk) i := by
  unfold rc
  rw [updF_ne _ _ (by omega), updF_ne _ _ (by omega)]
theorem drawn_rc0 (j : Nat) (lv tk : Nat → Int) (a t : Int) : rc (updF j a lv) (updF j t tk) (j * 2) = .int .i64 a := by rw [rc0, updF_at]
theorem drawn_rc1 (j : Nat) (lv tk : Nat → Int) (a t : Int) : rc (updF j a lv) (updF j t tk) (j * 2 + 1) = .int .i64 t := by rw [rc1, updF_at]
theorem drawn_table {j : Nat} {lv tk : Nat → Int} {a : Int} (h : DrawnTo j lv tk a) (hj : j ≤ 7) : vTable j lv tk = true := by
  unfold vTable
  rw [Bool.and_eq_true, decide_eq_true_iff]
  refine ⟨allTo_yes fun i hi => ?_, by omega⟩
  have h2 := h.2 i hi
  have h1 := h.1
  unfold rideAt vRide
  rw [inB_yes (by omega) (by omega), inB_yes (by omega) (by omega), decide_eq_true (p := lv i + tk i ≤ 1440) (by omega)]
  by_cases h0 : i = 0
  · rw [decide_eq_true h0]; rfl
  · rw [decide_eq_true (p := lv (i - 1) + tk (i - 1) ≤ lv i) (h2.2.2.2.2 (by omega)), Bool.or_true]; rfl
/-- The list in the heap. -/
def ListAt (w : World) (B : Nat) (z : Value) (j : Nat) (lv tk : Nat → Int) : Prop := (∃ c cap, z = .slice (some ⟨c, 0, none⟩) j cap) ∧ Out w B 32 2 z j (rc lv tk)
theorem ListAt.kept {w w' : World} {B : Nat} {z : Value} {j : Nat} {lv tk : Nat → Int} (h : ListAt w B z j lv tk) (hb : Below w.heap.size w w') : ListAt w' B z j lv tk := ⟨h.1, h.2.kept hb⟩
theorem ListAt.src {w w' : World} {g : Nat} {z : Value} {j : Nat} {lv tk : Nat → Int} (h : ListAt w (g + 1) z j lv tk) (hg : w.grownBy w' (some g)) : ListAt w' (g + 1) z j lv tk :=
  ⟨h.1, World.ownsRow.kept (row := some g) h.2 hg (by
    cases hv : z.ownBlock with
    | none => exact .inl rfl
    | some b => refine .inr fun e => ?_; have := (h.2.base b hv).1; have e2 := Option.some.inj e; omega)⟩
theorem snoc_rides {w : World} {B j : Nat} {e : TypeId} {v : Value} {lv tk : Nat → Int} {a t : Int} (h : w.ownsRow B e 2 v (j + 1) (cellsN (rc lv tk) (j * 2) ++ [.int .i64 a, .int .i64 t])) : Out w B e 2 v (j + 1) (rc (updF j a lv) (updF j t tk)) := by
  have e1 : cellsN (rc lv tk) (j * 2) = cellsN (rc (updF j a lv) (updF j t tk)) (j * 2) := cellsN_congr (fun i hi => drawn_rc hi)
  rw [e1] at h
  exact Out.snoc2 h (drawn_rc0 j lv tk a t).symm (drawn_rc1 j lv tk a t).symm
attribute [irreducible] DrawnTo updF

set_option maxHeartbeats 1600000 in
theorem src_draw19 (g : Nat) (b : Int) (W : World) (h : SrcAt W g b) (hb : 0 ≤ b ∧ b ≤ 100000) : Calls Tryd.prog 18 #[.pointer (some ⟨g, 0, none⟩)] W fun e W' => ∃ (z : Value) (n : Nat) (lv tk : Nat → Int) (a : Int), e = .returned z ∧ n ≤ 7 ∧ Below g W W' ∧ ListAt W' (g + 1) z n lv tk ∧ DrawnTo n lv tk a := by
  obtain ⟨i0, hi, hz0, hz1, hz2⟩ := info_parts infoRide
  have HP : Hid (∀ w c m, SrcAt w g c → c ≤ b + 100 → (1 ≤ m ∧ m ≤ 65536) → Calls Tryd.prog 32 #[.pointer (some ⟨g, 0, none⟩), .int .i64 m] w fun e w' => ∃ x : Int, e = .returned (.int .i64 x) ∧ (0 ≤ x ∧ x < m) ∧ w.grownBy w' (some g) ∧ SrcAt w' g (c + 2)) := fun w c m h1 h2 h3 => src_pick g c m w h1 (by omega) h3
  have hgl := h.1
  have H := Lib.hid h
  clear h
  go_enter Tryd.func18, Tryd.ntmps18
  go_wp2_with (first
    | (go_at_call 32; refine (HP.out _ _ _ hs1 (by omega) (by omega)).mono ?_; rintro e w2 ⟨x2, rfl, hx2, hg2, hs2⟩)
    | (go_at_call 32; refine (HP.out _ b _ (H.out.kept (kept_alloc (Below.refl _ _) _)) (by omega) (by omega)).mono ?_; rintro e w1 ⟨x1, rfl, hx1, hg1, hs1⟩))
  have hB0 : Below g W w2 := (((Below.refl g W).alloc (by omega) _).grown hg1 (by simp; omega) (fun k e => by injection e with e; omega)).grown hg2 (by have := hs1.1; omega) (fun k e => by injection e with e; omega)
  have hL0 : ListAt w2 (g + 1) (.slice (some ⟨W.heap.size, 0, none⟩) 0 0) 0 (fun _ => 0) (fun _ => 0) :=
    (ListAt.src (ListAt.src ⟨⟨_, _, rfl⟩, Out.empty W 32 2 _ (g + 1) (by omega)⟩ hg1) hg2)
  have hD0 := drawn_zero (a := 300 + x1) (by omega) (fun _ => 0) (fun _ => 0)
  obtain ⟨K, rfl⟩ : ∃ K : Nat, x2 = (K : Int) := ⟨x2.toNat, by omega⟩
  have HS0 := Lib.hid (hs2.le (c := b + 4 + 4 * ((0 : Nat) : Int)) (by omega))
  have HL0 := Lib.hid hL0
  have HD0 := Lib.hid hD0
  have HB0 := Lib.hid hB0
  clear hs1 hs2 hg1 hg2 hL0 hD0 hB0
  go_loopw [3, 4, 5] (fun u p q wr => ∃ (j k : Nat) (lv tk : Nat → Int) (a : Int), p = .int .i64 a ∧ q = .int .i64 k ∧ j + k ≤ 7 ∧ Hid (Below g W wr) ∧ Hid (SrcAt wr g (b + 4 + 4 * j)) ∧ Hid (ListAt wr (g + 1) u j lv tk) ∧ Hid (DrawnTo j lv tk a)) (fun _ _ q _ => (intOf q).toNat)
  case atStart => exact ⟨0, K, _, _, _, rfl, rfl, by omega, HB0, HS0, HL0, HD0⟩
  case round =>
    clear HB0 HS0 HL0 HD0 hx1 hx2
    obtain ⟨j, k, lv, tk, a, rfl, rfl, hjk, HB, HS, HL, HD⟩ := hrel
    have hab : 300 ≤ a ∧ a ≤ 699 := by have := HD.out; unfold DrawnTo at this; omega
    by_cases hk : 0 < k
    · obtain ⟨c, cap, rfl⟩ := HL.out.1
      have hcb := (HL.out.2.base c rfl)
      go_wp2_with (first
        | (at_builtin; refine wpList_append_own_at _ rfl _ _ 24 rfl _ 32 i0 _ 2 16 Tryd.underlying24 hi hz0 hz1 hz2 rfl (by decide) _ _ _ rfl ((hownA.out).row.alloc _) ⟨w1.heap.size + 1, 0, none⟩ 1 1 _ (by rfl) (by rfl) (laid_at (by simp)) (by intro u hu; simp at hu; first | (rcases hu with rfl | rfl <;> rfl) | (subst hu; rfl)) (by simp only [maxLen]; omega) (by omega) (by have hbs := hbA.size; simp at hbs ⊢; omega) ?_; intro v4 w4 hown4 hgrow4 hnil4 hat4)
        | (go_at_call 32; refine (HP.out _ _ _ HS.out (by omega) (by omega)).mono ?_; rintro e w1 ⟨x3, rfl, hx3, hg3, hs3⟩; have HL1 : Hid (ListAt w1 (g + 1) _ j lv tk) := HL.out.src hg3; have hownA : Hid (Out (w1.alloc (.cells #[.int .i64 a, .int .i64 (4 + x3)] 32)) (g + 1) 32 2 _ j (rc lv tk)) := HL1.out.2.kept (kept_alloc (Below.refl _ _) _); have hb1 := HB.out.grown hg3 (by have := HS.out.1; omega) (fun k e => by injection e with e; omega); have hbA := hb1.alloc (by have := hs3.1; omega) (.cells #[.int .i64 a, .int .i64 (4 + x3)] 32)))
      have hcw := (HL1.out.2.base c rfl).2
      have hcg : g < c := by have := hcb.1; omega
      have xb : w4.cell? ⟨w1.heap.size, 1, none⟩ = some (.int .i64 (4 + x3)) := hgrow4.cell (cell_keep (kept_alloc (Below.refl _ _) _) (boxed_at (i := 1) rfl rfl)) (fun e => by have e2 := Option.some.inj e; have e3 : w1.heap.size = c := e2; omega)
      have HS4 : Hid (SrcAt w4 g (b + 4 + 4 * j + 2)) := ((hs3.kept (kept_alloc (Below.refl _ _) _)).kept (kept_alloc (Below.refl _ _) _)).far hgrow4 (fun r e => by have e2 : c = r := Option.some.inj e; omega)
      have HL4 : Hid (ListAt w4 (g + 1) v4 (j + 1) (updF j a lv) (updF j (4 + x3) tk)) := ⟨by
        rcases hown4.2 with ⟨h0, h1⟩ | ⟨c', cap', cur, h0, h1⟩
        · omega
        · exact ⟨c', cap', h0⟩, snoc_rides hown4⟩
      have HB4 : Hid (Below g W w4) := (hbA.alloc (by have := hs3.1; simp; omega) _).grown hgrow4 (by have := hs3.1; simp; omega) (fun r e => by have e2 : c = r := Option.some.inj e; omega)
      have hgw : g < w1.heap.size := hs3.1
      clear hown4 hgrow4 hnil4 hat4 hb1 hbA hownA hs3 hg3 HL1 hcb
      go_region_held3 (fun w' => w'.cell? ⟨w1.heap.size, 1, none⟩ = some (.int .i64 (4 + x3))) (first | (go_keep; done) | exact xb | exact hg5.cell xb (fun e => by have e3 : w1.heap.size = g := Option.some.inj e; omega)) (first | (go_at_call 32; refine (HP.out _ _ _ (by first | exact HS4.out | exact HS4.out.kept (kept_drew (Below.refl _ _))) (by omega) (by omega)).mono ?_; rintro e w5 ⟨x5, rfl, hx5, hg5, hs5⟩))
      all_goals
        have ew : IntKind.i64.wrap (a + IntKind.i64.wrap (4 + x3 + x5)) = a + (4 + x3 + x5) := by rw [IntWalk.i64_in (4 + x3 + x5) (by omega), IntWalk.i64_in _ (by omega)]
        rw [ew]
        have HB5 : Hid (Below g W w5) := (HB4.out.drew).grown hg5 (by show g ≤ w4.heap.size; have := HS4.out.1; omega) (fun r e => by have e2 : g = r := Option.some.inj e; omega)
        have HL5 : Hid (ListAt w5 (g + 1) v4 (j + 1) (updF j a lv) (updF j (4 + x3) tk)) := (HL4.out.kept (kept_drew (Below.refl _ _))).src hg5
        have HS5 : Hid (SrcAt w5 g (b + 4 + 4 * ((j + 1 : Nat) : Int))) := hs5.le (by omega)
        have HD5 : Hid (DrawnTo (j + 1) (updF j a lv) (updF j (4 + x3) tk) (a + (4 + x3 + x5))) := drawn_step HD.out (by omega) (by omega)
        clear ew HS4 HL4 HB4 hs5 hg5 HB HS HL HD
        go_wp2_with fail
        go_roundw
        case rel => exact ⟨j + 1, k - 1, _, _, _, rfl, by go_num, by omega, HB5, HS5, HL5, HD5⟩
        case measure => simp [intOf]; omega
    · obtain rfl : k = 0 := by omega
      go_wp2
      go_ret
      exact ⟨_, j, lv, tk, a, rfl, by omega, HB.out, HL.out, HD.out⟩

/-- What a drawn timetable is. -/
theorem s_R8Timetable (v : Value) (m : Nat) (W : World) (h : ByS W v m) (hm : m ≤ 1048576) : Calls Tryd.prog 5 #[v] W fun e W' => ∃ (z : Value) (n : Nat) (lv tk : Nat → Int) (a : Int), e = .returned z ∧ n ≤ 7 ∧ Below W.heap.size W W' ∧ ListAt W' (W.heap.size + 1) z n lv tk ∧ DrawnTo n lv tk a := by
  have HF := Lib.hid (src_from v m W h hm)
  obtain ⟨h1, ao, cap, rfl, -⟩ := h
  go_enter Tryd.func5, Tryd.ntmps5
  go_wp2_with (first
    | (go_at_call 17; refine HF.out.mono ?_; rintro e w1 ⟨rfl, hb1, hs1, hz1⟩)
    | (go_at_call 18; refine (src_draw19 _ 0 _ hs1 (by omega)).mono ?_; rintro e w2 ⟨z, n, lv, tk, a, rfl, hn, hb2, hl2, hd2⟩))
  go_ret
  exact ⟨z, n, lv, tk, a, rfl, hn, hb1.trans hb2, hl2, hd2⟩

end Go.Proofs.YteieiceknnnphaaDoor
