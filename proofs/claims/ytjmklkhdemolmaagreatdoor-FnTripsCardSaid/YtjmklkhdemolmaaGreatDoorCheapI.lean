/- The cheapest fare for trips that follow each other, and whether trips are days: the program. -/
import Derived.Test.YtjmklkhdemolmaaGreatDoorCheapM
namespace Go.Proofs.YtjmklkhdemolmaaGreatDoor
open Go.RowKit Go.Deep
set_option linter.unusedVariables false
set_option maxRecDepth 100000

theorem i_sizeC (ao : Option Addr) (n cap : Nat) (W : World) (h : n ≤ 40) : Calls Tryz.prog 38 #[.slice ao n cap] W fun e W' => e = .returned (.int .i64 n) ∧ W = W' := by
  go_enter Tryz.func38, Tryz.ntmps38
  go_wp2
  go_ret
  exact ⟨rfl, rfl⟩

def fvS (a : Nat → ByteArray) : Option Nat → ByteArray
  | none => ⟨#[]⟩
  | some j => a j
def fvI (b : Nat → Int) : Option Nat → Int
  | none => 0
  | some j => b j
def gcb (s : ByteArray) (x y z : Int) : Nat → Value := gc (fun _ => s) (fun _ => x) (fun _ => y) (fun _ => z)
theorem gcb_cells (s : ByteArray) (x y z : Int) : gcb s x y z 0 = .string s ∧ gcb s x y z 1 = .int .i64 x ∧ gcb s x y z 2 = .int .i64 y ∧ gcb s x y z 3 = .int .i64 z := ⟨rfl, rfl, rfl, rfl⟩
theorem box4 (w : World) (s : ByteArray) (x y z : Int) (t : TypeId) : (w.alloc (.cells #[.string s, .int .i64 x, .int .i64 y, .int .i64 z] t)).rowIs w.heap.size t 4 (gcb s x y z) :=
  World.rowIs_alloc w #[.string s, .int .i64 x, .int .i64 y, .int .i64 z] t (gcb s x y z) (fun i hi => by
    have hi' : i < 4 := by simpa using hi
    match i, hi' with
    | 0, _ => rfl
    | 1, _ => rfl
    | 2, _ => rfl
    | 3, _ => rfl)
def set4 (w : World) (g : Nat) (s : ByteArray) (x y z : Int) : World := (((w.setCell ⟨g, 0, none⟩ (.string s)).setCell ⟨g, 1, none⟩ (.int .i64 x)).setCell ⟨g, 2, none⟩ (.int .i64 y)).setCell ⟨g, 3, none⟩ (.int .i64 z)
theorem row4 {w : World} {g : Nat} {t : TypeId} {f : Nat → Value} (h : w.rowIs g t 4 f) (s : ByteArray) (x y z : Int) : (set4 w g s x y z).rowIs g t 4 (gcb s x y z) :=
  ((((h.set 0 (.string s)).set 1 (.int .i64 x)).set 2 (.int .i64 y)).set 3 (.int .i64 z)).congr fun i hi => by
    match i, hi with
    | 0, _ => rfl
    | 1, _ => rfl
    | 2, _ => rfl
    | 3, _ => rfl
theorem other4 {w : World} {g g' n : Nat} {t : TypeId} {f : Nat → Value} (h : w.rowIs g t n f) (hne : g ≠ g') (s : ByteArray) (x y z : Int) : (set4 w g' s x y z).rowIs g t n f :=
  row_other (row_other (row_other (row_other h hne) hne) hne) hne
theorem kept4 {W w : World} (h : Below W.heap.size W w) {g : Nat} (hg : W.heap.size ≤ g) (s : ByteArray) (x y z : Int) : Below W.heap.size W (set4 w g s x y z) :=
  kept_set (kept_set (kept_set (kept_set h hg _) hg _) hg _) hg _

set_option maxHeartbeats 3200000 in
theorem i_partFare (v : Value) (n : Nat) (a : Nat → ByteArray) (b c d : Nat → Int) (u : Value) (z : Nat → Int) (i q : Nat) (W : World) (hs : Sl W v 4 n (gc a b c d)) (hu : Sl W u 1 q (ic fun j => z (i + j))) (hq : 1 ≤ q ∧ q ≤ 40) (hn : n ≤ 8) (HB : Hid (FB n b c d)) (HZ : Hid (∀ j, i ≤ j → j < i + q → 0 ≤ z j ∧ z j ≤ 36524)) (O : Option Nat) (HO : Hid (pkF z b c d i (i + q) n = O)) :
    Calls Tryz.prog 19 #[v, u] W fun e W' => e = .returned (.tuple #[.agg #[.string (fvS a O), .int .i64 (fvI b O), .int .i64 (fvI c O), .int .i64 (fvI d O)], .bool O.isSome]) ∧ Below W.heap.size W W' := by
  obtain ⟨-, ao, cap, rfl, hr⟩ := hs
  obtain ⟨-, ao2, cap2, rfl, hr2⟩ := hu
  obtain ⟨hq1, hq2⟩ := hq
  have HR := Lib.hid (pk_round z b c d i q · hq1)
  have HZ0 : Hid (pkF z b c d i (i + q) 0 = none) := by show _ = _; unfold pkF; rfl
  rcases hr2 with h0 | ⟨g2, off2, rfl, hr2⟩
  · omega
  have hz1 := HZ.out i (by omega) (by omega)
  have hz2 := HZ.out (i + (q - 1)) (by omega) (by omega)
  have T0 := hr2.cell (i := 0) (by omega)
  have T1 := hr2.cell (i := q - 1) (by omega)
  simp only [ic, Nat.add_zero] at T0 T1
  have HT0 := Lib.hid T0
  have HT1 := Lib.hid T1
  clear hr2 T0 T1
  have HBd : Hid (∀ j, j < n → (1 ≤ c j ∧ c j ≤ 1000) ∧ (1 ≤ d j ∧ d j ≤ 400)) := fun j hj => ⟨(HB.out j hj).2.1, (HB.out j hj).2.2⟩
  have HSZ := Lib.hid (fun w => i_sizeC (some ⟨g2, off2, none⟩) q cap2 w hq2)
  generalize z i = zi at *
  generalize z (i + (q - 1)) = zl at *
  generalize pkF z b c d i (i + q) = pk at *
  have KA := kept_alloc (kept_alloc (Below.refl W.heap.size W) (.cells #[.string ⟨#[]⟩, .int .i64 0, .int .i64 0, .int .i64 0] 32)) (.cells #[.string ⟨#[]⟩, .int .i64 0, .int .i64 0, .int .i64 0] 32)
  have R0 : ((W.alloc (.cells #[.string ⟨#[]⟩, .int .i64 0, .int .i64 0, .int .i64 0] 32)).alloc (.cells #[.string ⟨#[]⟩, .int .i64 0, .int .i64 0, .int .i64 0] 32)).rowIs W.heap.size 32 4 (gcb ⟨#[]⟩ 0 0 0) :=
    (box4 W ⟨#[]⟩ 0 0 0 32).of_block (heap_alloc_old _ _ (by simp))
  have R1 : ((W.alloc (.cells #[.string ⟨#[]⟩, .int .i64 0, .int .i64 0, .int .i64 0] 32)).alloc (.cells #[.string ⟨#[]⟩, .int .i64 0, .int .i64 0, .int .i64 0] 32)).rowIs (W.heap.size + 1) 32 4 (gcb ⟨#[]⟩ 0 0 0) := by
    have h := box4 (W.alloc (.cells #[.string ⟨#[]⟩, .int .i64 0, .int .i64 0, .int .i64 0] 32)) ⟨#[]⟩ 0 0 0 32
    rw [show (W.alloc (.cells #[.string ⟨#[]⟩, .int .i64 0, .int .i64 0, .int .i64 0] 32)).heap.size = W.heap.size + 1 by simp] at h
    exact h
  have HRW := Lib.hid hr
  clear hr
  go_enter Tryz.func19, Tryz.ntmps19
  go_wp2
  go_loopw [7, 14] (fun f iv wr => ∃ (j : Nat) (o : Option Nat), j ≤ n ∧ iv = .int .i64 j ∧ f = .bool o.isSome ∧ Hid (pk j = o) ∧ Below W.heap.size W wr ∧ wr.rowIs W.heap.size 32 4 (gcb ⟨#[]⟩ 0 0 0) ∧ wr.rowIs (W.heap.size + 1) 32 4 (gcb (fvS a o) (fvI b o) (fvI c o) (fvI d o))) (fun _ iv _ => n - (intOf iv).toNat)
  case atStart => exact ⟨0, none, Nat.zero_le _, rfl, rfl, HZ0.out, KA, R0, R1⟩
  case round =>
    clear KA R0 R1
    obtain ⟨j, o, hj, rfl, rfl, hpo, hb, hR, hB⟩ := hrel
    by_cases hlt : j < n
    · rcases HRW.out with h0 | ⟨g, off, hao, hr⟩
      · omega
      subst hao
      obtain ⟨s0, s1, s2, s3⟩ := gccells (hr.kept hb) hlt
      clear hr
      obtain ⟨⟨c1, c2⟩, d1, d2⟩ := HBd.out j hlt
      have e1 : IntKind.i64.wrap (zl - zi) = zl - zi := IntWalk.i64_in _ (by omega)
      have HRj := HR.out j
      have KX := kept_alloc (Below.refl wr.heap.size wr) (.cells #[.string (a j), .int .i64 (b j), .int .i64 (c j), .int .i64 (d j)] 32)
      have t0 := cell_keep (kept_trans hb KX) HT0.out
      have t1 := cell_keep (kept_trans hb KX) HT1.out
      have hRx := row_kept hR KX
      have hBx := row_kept hB KX
      have x0 : (wr.alloc (.cells #[.string (a j), .int .i64 (b j), .int .i64 (c j), .int .i64 (d j)] 32)).cell? ⟨wr.heap.size, 0, none⟩ = some (.string (a j)) := boxed_at rfl rfl
      have x1 : (wr.alloc (.cells #[.string (a j), .int .i64 (b j), .int .i64 (c j), .int .i64 (d j)] 32)).cell? ⟨wr.heap.size, 1, none⟩ = some (.int .i64 (b j)) := boxed_at rfl rfl
      have x2 : (wr.alloc (.cells #[.string (a j), .int .i64 (b j), .int .i64 (c j), .int .i64 (d j)] 32)).cell? ⟨wr.heap.size, 2, none⟩ = some (.int .i64 (c j)) := boxed_at rfl rfl
      have x3 : (wr.alloc (.cells #[.string (a j), .int .i64 (b j), .int .i64 (c j), .int .i64 (d j)] 32)).cell? ⟨wr.heap.size, 3, none⟩ = some (.int .i64 (d j)) := boxed_at rfl rfl
      have hbx := kept_trans hb KX
      have y0 := hBx.cell (i := 0) (by omega)
      have y1 := hBx.cell (i := 1) (by omega)
      have y2 := hBx.cell (i := 2) (by omega)
      have y3 := hBx.cell (i := 3) (by omega)
      simp only [gcb_cells] at y0 y1 y2 y3
      have q1 : ∀ w, Calls Tryz.prog 38 #[.slice (some ⟨g2, off2, none⟩) q cap2] w fun e W' => e = .returned (.int .i64 q) ∧ W' = w := fun w => (HSZ.out w).mono fun _ _ ⟨he, hw⟩ => ⟨he, hw.symm⟩
      clear KX hR hB hb
      rcases HRj with ⟨h1, hp⟩ | ⟨h1, h2, hp⟩ | ⟨h1, h2, hp0, hp⟩ | ⟨p, hpj, h1, h2, hp0, h3, hp⟩ | ⟨p, hpj, h1, h2, hp0, h3, hp⟩
      · have hd1 : decide ((q : Int) ≤ c j) = false := by simp; omega
        have hv : Hid (pk (j + 1) = o) := by show _ = _; rw [hp.out, hpo.out]
        clear hp hpo h1 HO HR
        go_wp2_with fail
        go_quiet ((go_at_call 38; exact Calls.quiet_of_same (q1 _)))
        clear e1 t0 t1 q1
        go_wp2_with fail
        go_roundw
        case rel => exact ⟨j + 1, o, by omega, by go_num, rfl, hv, kept_drewN hbx _, row_kept hRx (kept_drewN (Below.refl _ _) _), row_kept hBx (kept_drewN (Below.refl _ _) _)⟩
        case measure => simp [intOf] <;> omega
      · have hd1 : decide ((q : Int) ≤ c j) = true := by simp; omega
        have hd2 : decide (zl - zi < d j) = false := by simp; omega
        have hv : Hid (pk (j + 1) = o) := by show _ = _; rw [hp.out, hpo.out]
        clear hp hpo h1 HO HR h2
        go_wp2_with fail
        go_quiet ((go_at_call 38; exact Calls.quiet_of_same (q1 _)))
        clear e1 t0 t1 q1
        go_wp2_with fail
        go_roundw
        case rel => exact ⟨j + 1, o, by omega, by go_num, rfl, hv, kept_drewN hbx _, row_kept hRx (kept_drewN (Below.refl _ _) _), row_kept hBx (kept_drewN (Below.refl _ _) _)⟩
        case measure => simp [intOf] <;> omega
      · have hd1 : decide ((q : Int) ≤ c j) = true := by simp; omega
        have hd2 : decide (zl - zi < d j) = true := by simp; omega
        obtain rfl : o = none := by rw [← hpo.out, hp0.out]
        have hv : Hid (pk (j + 1) = some j) := hp
        have f0 := hBx.frozen 0
        have f1 := hBx.frozen 1
        have f2 := hBx.frozen 2
        have f3 := hBx.frozen 3
        clear hp hp0 hpo h1 h2 HO HR
        go_wp2_with fail
        go_quiet ((go_at_call 38; exact Calls.quiet_of_same (q1 _)))
        clear e1 t0 t1 q1
        have hbq := kept_drewN hbx nq
        have hRq := row_kept hRx (kept_drewN (Below.refl _ _) nq)
        have hBq := row_kept hBx (kept_drewN (Below.refl _ _) nq)
        have RBx := Lib.hid (row4 hBq (a j) (b j) (c j) (d j))
        have RRx := Lib.hid (other4 hRq (show W.heap.size ≠ W.heap.size + 1 by omega) (a j) (b j) (c j) (d j))
        have RK := Lib.hid (kept4 hbq (show W.heap.size ≤ W.heap.size + 1 by omega) (a j) (b j) (c j) (d j))
        clear hbq hRq hBq hbx hRx hBx
        unfold set4 at RBx RRx RK
        go_wp2_with fail
        go_roundw
        case rel => exact ⟨j + 1, some j, by omega, by go_num, rfl, hv, RK.out, RRx.out, RBx.out⟩
        case measure => simp [intOf] <;> omega
      · have hd1 : decide ((q : Int) ≤ c j) = true := by simp; omega
        have hd2 : decide (zl - zi < d j) = true := by simp; omega
        obtain rfl : o = some p := by rw [← hpo.out, hp0.out]
        have hd3 : decide (b j < b p) = true := by simp; omega
        simp only [fvI] at y1
        have hv : Hid (pk (j + 1) = some j) := hp
        have f0 := hBx.frozen 0
        have f1 := hBx.frozen 1
        have f2 := hBx.frozen 2
        have f3 := hBx.frozen 3
        clear hp hp0 hpo h1 h2 HO HR h3
        go_wp2_with fail
        go_quiet ((go_at_call 38; exact Calls.quiet_of_same (q1 _)))
        clear e1 t0 t1 q1
        have hbq := kept_drewN hbx nq
        have hRq := row_kept hRx (kept_drewN (Below.refl _ _) nq)
        have hBq := row_kept hBx (kept_drewN (Below.refl _ _) nq)
        have RBx := Lib.hid (row4 hBq (a j) (b j) (c j) (d j))
        have RRx := Lib.hid (other4 hRq (show W.heap.size ≠ W.heap.size + 1 by omega) (a j) (b j) (c j) (d j))
        have RK := Lib.hid (kept4 hbq (show W.heap.size ≤ W.heap.size + 1 by omega) (a j) (b j) (c j) (d j))
        clear hbq hRq hBq hbx hRx hBx
        unfold set4 at RBx RRx RK
        go_wp2_with fail
        go_roundw
        case rel => exact ⟨j + 1, some j, by omega, by go_num, rfl, hv, RK.out, RRx.out, RBx.out⟩
        case measure => simp [intOf] <;> omega
      · have hd1 : decide ((q : Int) ≤ c j) = true := by simp; omega
        have hd2 : decide (zl - zi < d j) = true := by simp; omega
        obtain rfl : o = some p := by rw [← hpo.out, hp0.out]
        have hd3 : decide (b j < b p) = false := by simp; omega
        simp only [fvI] at y1
        have hv : Hid (pk (j + 1) = some p) := by show _ = _; rw [hp.out]
        clear hp hpo h1 HO HR h2 h3 hp0
        go_wp2_with fail
        go_quiet ((go_at_call 38; exact Calls.quiet_of_same (q1 _)))
        clear e1 t0 t1 q1
        go_wp2_with fail
        go_roundw
        case rel => exact ⟨j + 1, some p, by omega, by go_num, rfl, hv, kept_drewN hbx _, row_kept hRx (kept_drewN (Below.refl _ _) _), row_kept hBx (kept_drewN (Below.refl _ _) _)⟩
        case measure => simp [intOf] <;> omega
    · obtain rfl : j = n := by omega
      have hoO : Hid (o = O) := by show _ = _; rw [← hpo.out, HO.out]
      obtain rfl := hoO.out
      have y0 := hB.cell (i := 0) (by omega)
      have y1 := hB.cell (i := 1) (by omega)
      have y2 := hB.cell (i := 2) (by omega)
      have y3 := hB.cell (i := 3) (by omega)
      have r0 := hR.cell (i := 0) (by omega)
      have r1 := hR.cell (i := 1) (by omega)
      have r2 := hR.cell (i := 2) (by omega)
      have r3 := hR.cell (i := 3) (by omega)
      have f0 := hR.frozen 0
      have f1 := hR.frozen 1
      have f2 := hR.frozen 2
      have f3 := hR.frozen 3
      simp only [gcb_cells] at y0 y1 y2 y3 r0 r1 r2 r3
      have RR := row4 hR (fvS a o) (fvI b o) (fvI c o) (fvI d o)
      have w0 := RR.cell (i := 0) (by omega)
      have w1 := RR.cell (i := 1) (by omega)
      have w2 := RR.cell (i := 2) (by omega)
      have w3 := RR.cell (i := 3) (by omega)
      simp only [gcb_cells, set4] at w0 w1 w2 w3
      have RB := Lib.hid (kept4 hb (Nat.le_refl _) (fvS a o) (fvI b o) (fvI c o) (fvI d o))
      clear hR hB RR hb hpo HO
      go_wp2_with fail
      refine bodyPost_ret (v := .tuple #[.agg #[.string (fvS a o), .int .i64 (fvI b o), .int .i64 (fvI c o), .int .i64 (fvI d o)], .bool o.isSome]) (by simp [results, go_sem, w0, w1, w2, w3]) rfl ⟨rfl, RB.out⟩

set_option maxHeartbeats 1600000 in
theorem i_areTrips (g1 n cq : Nat) (z : Nat → Int) (W : World) (hn : n ≤ 17592186044416) (hcq : n ≤ cq ∧ cq ≤ 9223372036854775807) (ht : Row W g1 0 n (ic z)) : Calls Tryz.prog 18 #[.slice (some ⟨g1, 0, none⟩) n cq] W fun e W' => e = .returned (.bool (trOk n z)) ∧ Below W.heap.size W W' := by
  have HT := Lib.hid ht
  clear ht
  have HX : Hid (∀ k, k < n → tAt z k = false → trOk n z = false) := fun k hk h => trOk_no hk h
  have HY : Hid ((∀ i, i < n → tAt z i = true) → trOk n z = decide (n ≤ 40)) := trOk_yes
  have HC := Lib.hid (tAt_cases z)
  generalize trOk n z = R at *
  generalize tAt z = ta at *
  go_enter Tryz.func18, Tryz.ntmps18
  go_wp2
  go_loopw [7] (fun i wr => ∃ k : Nat, k ≤ n ∧ i = .int .i64 k ∧ Below W.heap.size W wr ∧ Hid (∀ i, i < k → ta i = true)) (fun i _ => n - (intOf i).toNat)
  case atStart => exact ⟨0, Nat.zero_le _, rfl, Below.refl _ _, fun i h => absurd h (by omega)⟩
  case round =>
    obtain ⟨k, hk, rfl, hb, hno⟩ := hrel
    by_cases hlt : k < n
    · have t0 := row00 (HT.out.kept hb) hlt
      have HN : Hid (ta k = true → ∀ i, i < k + 1 → ta i = true) := fun h i hi => by
        by_cases e : i = k
        · rw [e]; exact h
        · exact hno.out i (by omega)
      rcases HC.out k with ⟨hi1, hp⟩ | ⟨hi1, hk0, hp⟩ | ⟨hi1, hk0, hc, hp⟩ | ⟨hi1, hk0, hc, hp⟩
      · have HF := Lib.hid (HX.out k hlt hp.out)
        go_wp2_with (go_at_call 37; refine (i_isDay _ _).mono ?_; rintro e w' ⟨rfl, rfl⟩)
        go_ret
        exact ⟨by rw [HF.out]; rfl, hb⟩
      · have h0' : k ≤ 0 := by omega
        have hd : decide (0 < k) = false := by simp; omega
        clear hk0
        go_wp2_with (go_at_call 37; refine (i_isDay _ _).mono ?_; rintro e w' ⟨rfl, rfl⟩)
        go_roundw
        case rel => exact ⟨k + 1, by omega, by go_num, hb, HN.out hp.out⟩
        case measure => simp [intOf] <;> omega
      · have t1 := row00 (HT.out.kept hb) (i := k - 1) (by omega)
        go_wp2_with (go_at_call 37; refine (i_isDay _ _).mono ?_; rintro e w' ⟨rfl, rfl⟩)
        go_roundw
        case rel => exact ⟨k + 1, by omega, by go_num, hb, HN.out hp.out⟩
        case measure => simp [intOf] <;> omega
      · have HF := Lib.hid (HX.out k hlt hp.out)
        have t1 := row00 (HT.out.kept hb) (i := k - 1) (by omega)
        go_wp2_with (go_at_call 37; refine (i_isDay _ _).mono ?_; rintro e w' ⟨rfl, rfl⟩)
        go_ret
        exact ⟨by rw [HF.out]; rfl, hb⟩
    · have HF := Lib.hid (HY.out (fun i hi => hno.out i (by omega)))
      go_wp2
      go_ret
      exact ⟨by rw [HF.out]; exact ret_bool (by simp <;> omega), hb⟩

end Go.Proofs.YtjmklkhdemolmaaGreatDoor
