/- A ride read off its text: the reading functions and the law. -/
import Derived.Test.YteieiceknnnphaaDoorRdW
namespace Go.Proofs.YteieiceknnnphaaDoor
open Go.RowKit Go.Deep
set_option linter.unusedVariables false
set_option maxRecDepth 100000

theorem box_free {w : World} {cs : Array Value} {t : TypeId} {k : Nat} (i : Nat) (hk : w.heap.size = k) : (w.alloc (.cells cs t)).frozen? ⟨k, i, none⟩ = false := World.frozen?_alloc_at cs t k i hk.symm
theorem box_keep {w w1 : World} {b o : Nat} (hb : Below w.heap.size w w1) (hl : b < w.heap.size) (h : w.frozen? ⟨b, o, none⟩ = false) : w1.frozen? ⟨b, o, none⟩ = false := by
  rw [hb.frozen (p := ⟨b, o, none⟩) hl]; exact h
theorem rdS_no {l : List UInt8} (h : (twoL (spl 43 [] l)).2.2 = false ∨ vRide (twoL (spl 43 [] l)).1 (twoL (spl 43 [] l)).2.1 = false) : rdS l = (0, 0, false) := by
  unfold rdS
  rw [if_neg]
  rintro ⟨h1, h2⟩
  rcases h with h | h
  · rw [h] at h1; cases h1
  · rw [h] at h2; cases h2
theorem rdS_yes {l : List UInt8} (h : (twoL (spl 43 [] l)).2.2 = true) (h2 : vRide (twoL (spl 43 [] l)).1 (twoL (spl 43 [] l)).2.1 = true) : rdS l = ((twoL (spl 43 [] l)).1, (twoL (spl 43 [] l)).2.1, true) := by
  unfold rdS; rw [if_pos ⟨h, h2⟩]
theorem rdI_no {l : List UInt8} (h : vRide (numV (cutA 43 l)) (numV (cutB 43 l)) = false ∨ ¬ rideS (numV (cutA 43 l)) (numV (cutB 43 l)) = bsL l) : rdI l = (0, 0, false) := by
  unfold rdI
  rw [if_neg]
  rintro ⟨h1, h2⟩
  rcases h with h | h
  · rw [h] at h1; cases h1
  · exact h h2
theorem rdI_yes {l : List UInt8} (h : vRide (numV (cutA 43 l)) (numV (cutB 43 l)) = true) (h2 : rideS (numV (cutA 43 l)) (numV (cutB 43 l)) = bsL l) : rdI l = (numV (cutA 43 l), numV (cutB 43 l), true) := by
  unfold rdI; rw [if_pos ⟨h, h2⟩]

/-- A ride's two cells, not frozen. -/
def RideAt (w : World) (g : Nat) (x y : Int) : Prop := g < w.heap.size ∧ w.cell? ⟨g, 0, none⟩ = some (.int .i64 x) ∧ w.cell? ⟨g, 1, none⟩ = some (.int .i64 y) ∧ ∀ i, w.frozen? ⟨g, i, none⟩ = false
theorem RideAt.new (w : World) (x y : Int) : RideAt (w.alloc (.cells #[.int .i64 x, .int .i64 y] 32)) w.heap.size x y :=
  ⟨by simp, boxed_at rfl rfl, boxed_at rfl rfl, fun i => box_free i rfl⟩
theorem RideAt.kept {w w1 : World} {g : Nat} {x y : Int} (h : RideAt w g x y) (hb : Below w.heap.size w w1) : RideAt w1 g x y :=
  ⟨Nat.lt_of_lt_of_le h.1 hb.size, cell_keep hb h.2.1, cell_keep hb h.2.2.1, fun i => box_keep hb h.1 (h.2.2.2 i)⟩
theorem RideAt.set0 {w : World} {g : Nat} {x y : Int} (h : RideAt w g x y) (u : Int) : RideAt (w.setCell ⟨g, 0, none⟩ (.int .i64 u)) g u y :=
  ⟨by simp; exact h.1, World.cell?_setCell_same _ _ _ h.2.1, by rw [World.cell?_setCell_other _ _ _ _ (by simp)]; exact h.2.2.1, fun i => by rw [World.frozen?_setCell]; exact h.2.2.2 i⟩
theorem RideAt.set1 {w : World} {g : Nat} {x y : Int} (h : RideAt w g x y) (u : Int) : RideAt (w.setCell ⟨g, 1, none⟩ (.int .i64 u)) g x u :=
  ⟨by simp; exact h.1, by rw [World.cell?_setCell_other _ _ _ _ (by simp)]; exact h.2.1, World.cell?_setCell_same _ _ _ h.2.2.1, fun i => by rw [World.frozen?_setCell]; exact h.2.2.2 i⟩
theorem RideAt.other {w : World} {g g' : Nat} {x y : Int} (h : RideAt w g x y) (hne : g' ≠ g) (j : Nat) (v : Value) : RideAt (w.setCell ⟨g', j, none⟩ v) g x y :=
  ⟨by simp; exact h.1, by rw [World.cell?_setCell_other _ _ _ _ (fun e => hne (congrArg (fun a : Addr => a.block) e))]; exact h.2.1, by rw [World.cell?_setCell_other _ _ _ _ (fun e => hne (congrArg (fun a : Addr => a.block) e))]; exact h.2.2.1, fun i => by rw [World.frozen?_setCell]; exact h.2.2.2 i⟩

set_option maxHeartbeats 800000 in
theorem i_ReadRide (s : ByteArray) (W : World) (hs : s.size ≤ 1048576) (htab : Tab10 W) (herr : ErrS W) : Calls Tryd.prog 9 #[.string s] W fun e W' => e = .returned (.tuple #[.agg #[.int .i64 (rdI s.data.toList).1, .int .i64 (rdI s.data.toList).2.1], .bool (rdI s.data.toList).2.2]) ∧ Below W.heap.size W W' := by
  have HC := Lib.hid (fun w => c_Cut s w hs)
  have HNO := Lib.hid (rdI_no (l := s.data.toList))
  have HYES := Lib.hid (rdI_yes (l := s.data.toList))
  have HTB := Lib.hid htab
  have HER := Lib.hid herr
  have KA := kept_alloc (Below.refl W.heap.size W) (.cells #[.int .i64 0, .int .i64 0] 32)
  have r0 := RideAt.new W 0 0
  have HN : Hid (∀ z : ByteArray, z.size ≤ 1048576 → ∀ w, Tab10 w → ErrS w → Calls Tryd.prog 24 #[.string z] w fun e W' => e = .returned (.tuple #[.int .i64 (numV z.data.toList), .bool (numB z.data.toList)]) ∧ Below w.heap.size w W') := fun z hz w h1 h2 => i_ReadDecimal z w hz h1 h2
  have hX : (bsL (cutA 43 s.data.toList)).size ≤ 1048576 := by rw [bsL_size]; have := cutA_len 43 s.data.toList; rw [size_list] at this; omega
  have hY : (bsL (cutB 43 s.data.toList)).size ≤ 1048576 := by rw [bsL_size]; have := cutB_len 43 s.data.toList; rw [size_list] at this; omega
  have ex : numV (cutA 43 s.data.toList) = numV (bsL (cutA 43 s.data.toList)).data.toList := rfl
  have ey : numV (cutB 43 s.data.toList) = numV (bsL (cutB 43 s.data.toList)).data.toList := rfl
  rw [ex, ey, bsL_data] at HNO HYES
  clear ex ey htab herr
  generalize rdI s.data.toList = R at *
  generalize bsL (cutA 43 s.data.toList) = X at *
  generalize bsL (cutB 43 s.data.toList) = Y at *
  generalize hnV : (fun z : ByteArray => numV z.data.toList) = nV
  generalize hnB : (fun z : ByteArray => numB z.data.toList) = nB
  have HN2 : Hid (∀ z : ByteArray, z.size ≤ 1048576 → ∀ w, Tab10 w → ErrS w → Calls Tryd.prog 24 #[.string z] w fun e W' => e = .returned (.tuple #[.int .i64 (nV z), .bool (nB z)]) ∧ Below w.heap.size w W') := by subst hnV; subst hnB; exact HN
  have gx : numV X.data.toList = nV X := by subst hnV; rfl
  have gy : numV Y.data.toList = nV Y := by subst hnV; rfl
  rw [gx, gy] at HNO HYES
  clear gx gy hnV hnB HN
  have HV := Lib.hid (fun w => i_validRide (nV X) (nV Y) w)
  have HR := Lib.hid (fun w h => i_RideText (nV X) (nV Y) w h)
  cases hv : vRide (nV X) (nV Y)
  · have hr := Lib.hid (HNO.out (.inl hv))
    rw [hv] at HV
    clear hv HNO HYES HR
    go_enter Tryd.func9, Tryd.ntmps9
    go_wp2_with (first
        | (go_at_call 23; refine (HC.out _).mono ?_; rintro e w1 ⟨B1, rfl, hb1⟩; have K0 := kept_trans KA hb1; have hz1 := K0.size; have rA1 := (r0.kept hb1).kept (kept_alloc (Below.refl w1.heap.size w1) (.cells #[.int .i64 0, .int .i64 0] 32)); have rB := RideAt.new w1 0 0; have K1 := kept_alloc K0 (.cells #[.int .i64 0, .int .i64 0] 32); have hne : w1.heap.size ≠ W.heap.size := by (have q := hb1.size; simp at q; omega))
        | (go_at_call 24; refine (HN2.out _ (by assumption) _ (HTB.out.kept (by assumption)) (HER.out.kept (by assumption))).mono ?_; rintro e w2 ⟨rfl, hb2⟩; first | (have rB4 := rB3.kept hb2; have rA4 := rA3.kept hb2; obtain ⟨-, -, p1, pf⟩ := id rB4; have p2 := pf 1; have rB5 := rB4.set1 (nV Y); have rA5 := rA4.other hne 1 (.int .i64 (nV Y)); obtain ⟨-, b0, b1, -⟩ := id rB5; have K5 : Below W.heap.size W (w2.setCell ⟨w1.heap.size, 1, none⟩ (.int .i64 (nV Y))) := kept_set (kept_trans K3 hb2) hz1 _) | (have rB2 := rB.kept hb2; have rA2 := rA1.kept hb2; obtain ⟨-, p0, -, pf⟩ := id rB2; have pf0 := pf 0; have rB3 := rB2.set0 (nV X); have rA3 := rA2.other hne 0 (.int .i64 (nV X)); have K3 : Below W.heap.size W (w2.setCell ⟨w1.heap.size, 0, none⟩ (.int .i64 (nV X))) := kept_set (kept_trans K1 hb2) hz1 _))
        | (go_at_call 22; refine (HV.out _).mono ?_; rintro e w4 ⟨rfl, hb4⟩; have rB6 := rB5.kept hb4; have rA6 := rA5.kept hb4; obtain ⟨-, d0, d1, -⟩ := id rB6; obtain ⟨-, y0, y1, yf⟩ := id rA6; have K6 := kept_trans K5 hb4)
        | (go_at_call 10; refine (HR.out _ (HTB.out.kept (by assumption))).mono ?_; rintro e w5 ⟨rfl, hb5⟩; have rB7 := rB6.kept hb5; have rA7 := rA6.kept hb5; obtain ⟨-, e0, e1, -⟩ := id rB7; obtain ⟨-, y0, y1, yf⟩ := id rA7; have K7 := kept_trans K6 hb5))
    refine bodyPost_ret (v := .tuple #[.agg #[.int .i64 0, .int .i64 0], .bool false]) (by simp [results, go_sem, y0, y1]) rfl ⟨by rw [hr.out], kept_set (kept_set K6 (Nat.le_refl _) _) (Nat.le_refl _) _⟩
  · rw [hv] at HV
    by_cases hq : rideS (nV X) (nV Y) = s
    · have hr := Lib.hid (HYES.out hv hq)
      rw [hq] at HR
      clear hv hq HNO HYES
      go_enter Tryd.func9, Tryd.ntmps9
      go_wp2_with (first
          | (go_at_call 23; refine (HC.out _).mono ?_; rintro e w1 ⟨B1, rfl, hb1⟩; have K0 := kept_trans KA hb1; have hz1 := K0.size; have rA1 := (r0.kept hb1).kept (kept_alloc (Below.refl w1.heap.size w1) (.cells #[.int .i64 0, .int .i64 0] 32)); have rB := RideAt.new w1 0 0; have K1 := kept_alloc K0 (.cells #[.int .i64 0, .int .i64 0] 32); have hne : w1.heap.size ≠ W.heap.size := by (have q := hb1.size; simp at q; omega))
          | (go_at_call 24; refine (HN2.out _ (by assumption) _ (HTB.out.kept (by assumption)) (HER.out.kept (by assumption))).mono ?_; rintro e w2 ⟨rfl, hb2⟩; first | (have rB4 := rB3.kept hb2; have rA4 := rA3.kept hb2; obtain ⟨-, -, p1, pf⟩ := id rB4; have p2 := pf 1; have rB5 := rB4.set1 (nV Y); have rA5 := rA4.other hne 1 (.int .i64 (nV Y)); obtain ⟨-, b0, b1, -⟩ := id rB5; have K5 : Below W.heap.size W (w2.setCell ⟨w1.heap.size, 1, none⟩ (.int .i64 (nV Y))) := kept_set (kept_trans K3 hb2) hz1 _) | (have rB2 := rB.kept hb2; have rA2 := rA1.kept hb2; obtain ⟨-, p0, -, pf⟩ := id rB2; have pf0 := pf 0; have rB3 := rB2.set0 (nV X); have rA3 := rA2.other hne 0 (.int .i64 (nV X)); have K3 : Below W.heap.size W (w2.setCell ⟨w1.heap.size, 0, none⟩ (.int .i64 (nV X))) := kept_set (kept_trans K1 hb2) hz1 _))
          | (go_at_call 22; refine (HV.out _).mono ?_; rintro e w4 ⟨rfl, hb4⟩; have rB6 := rB5.kept hb4; have rA6 := rA5.kept hb4; obtain ⟨-, d0, d1, -⟩ := id rB6; obtain ⟨-, y0, y1, yf⟩ := id rA6; have K6 := kept_trans K5 hb4)
          | (go_at_call 10; refine (HR.out _ (HTB.out.kept (by assumption))).mono ?_; rintro e w5 ⟨rfl, hb5⟩; have rB7 := rB6.kept hb5; have rA7 := rA6.kept hb5; obtain ⟨-, e0, e1, -⟩ := id rB7; obtain ⟨-, y0, y1, yf⟩ := id rA7; have K7 := kept_trans K6 hb5))
      refine bodyPost_ret (v := .tuple #[.agg #[.int .i64 (nV X), .int .i64 (nV Y)], .bool true]) (by simp [results, go_sem, y0, y1]) rfl ⟨by rw [hr.out], kept_set (kept_set K7 (Nat.le_refl _) _) (Nat.le_refl _) _⟩
    · have hr := Lib.hid (HNO.out (.inr hq))
      generalize rideS (nV X) (nV Y) = Q at *
      have hq2 : (Q.toList == s.toList) = false := neq_lists hq
      clear hv hq HNO HYES
      go_enter Tryd.func9, Tryd.ntmps9
      go_wp2_with (first
          | (go_at_call 23; refine (HC.out _).mono ?_; rintro e w1 ⟨B1, rfl, hb1⟩; have K0 := kept_trans KA hb1; have hz1 := K0.size; have rA1 := (r0.kept hb1).kept (kept_alloc (Below.refl w1.heap.size w1) (.cells #[.int .i64 0, .int .i64 0] 32)); have rB := RideAt.new w1 0 0; have K1 := kept_alloc K0 (.cells #[.int .i64 0, .int .i64 0] 32); have hne : w1.heap.size ≠ W.heap.size := by (have q := hb1.size; simp at q; omega))
          | (go_at_call 24; refine (HN2.out _ (by assumption) _ (HTB.out.kept (by assumption)) (HER.out.kept (by assumption))).mono ?_; rintro e w2 ⟨rfl, hb2⟩; first | (have rB4 := rB3.kept hb2; have rA4 := rA3.kept hb2; obtain ⟨-, -, p1, pf⟩ := id rB4; have p2 := pf 1; have rB5 := rB4.set1 (nV Y); have rA5 := rA4.other hne 1 (.int .i64 (nV Y)); obtain ⟨-, b0, b1, -⟩ := id rB5; have K5 : Below W.heap.size W (w2.setCell ⟨w1.heap.size, 1, none⟩ (.int .i64 (nV Y))) := kept_set (kept_trans K3 hb2) hz1 _) | (have rB2 := rB.kept hb2; have rA2 := rA1.kept hb2; obtain ⟨-, p0, -, pf⟩ := id rB2; have pf0 := pf 0; have rB3 := rB2.set0 (nV X); have rA3 := rA2.other hne 0 (.int .i64 (nV X)); have K3 : Below W.heap.size W (w2.setCell ⟨w1.heap.size, 0, none⟩ (.int .i64 (nV X))) := kept_set (kept_trans K1 hb2) hz1 _))
          | (go_at_call 22; refine (HV.out _).mono ?_; rintro e w4 ⟨rfl, hb4⟩; have rB6 := rB5.kept hb4; have rA6 := rA5.kept hb4; obtain ⟨-, d0, d1, -⟩ := id rB6; obtain ⟨-, y0, y1, yf⟩ := id rA6; have K6 := kept_trans K5 hb4)
          | (go_at_call 10; refine (HR.out _ (HTB.out.kept (by assumption))).mono ?_; rintro e w5 ⟨rfl, hb5⟩; have rB7 := rB6.kept hb5; have rA7 := rA6.kept hb5; obtain ⟨-, e0, e1, -⟩ := id rB7; obtain ⟨-, y0, y1, yf⟩ := id rA7; have K7 := kept_trans K6 hb5))
      refine bodyPost_ret (v := .tuple #[.agg #[.int .i64 0, .int .i64 0], .bool false]) (by simp [results, go_sem, y0, y1]) rfl ⟨by rw [hr.out], kept_set (kept_set K7 (Nat.le_refl _) _) (Nat.le_refl _) _⟩

end Go.Proofs.YteieiceknnnphaaDoor
