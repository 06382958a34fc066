/- The way to a state: the reference's walk. -/
import Derived.Test.YtkloolhngddpiaaWayI
namespace Go.Proofs.Ytkloolhngddpiaa
open Go.RowKit Go.Deep
set_option linter.unusedVariables false
set_option maxRecDepth 100000

def bK (fr : List Nat) (y : Nat) (ms : List (Nat × Nat × Nat)) : Nat → Nat × Nat × Nat
  | 0 => (0, 0, 0)
  | k + 1 => bst1 fr y (bK fr y ms k) (nthM ms k)
theorem bK_end (fr : List Nat) (y : Nat) (ms : List (Nat × Nat × Nat)) : bK fr y ms ms.length = bst fr y ms := by
  have key : ∀ k, k ≤ ms.length → bK fr y ms k = (ms.take k).foldl (bst1 fr y) (0, 0, 0) := by
    intro k
    induction k with
    | zero => intro _; rfl
    | succ k ih =>
      intro h
      rw [take_nthM (by omega), List.foldl_append, ← ih (by omega)]
      rfl
  rw [key _ (Nat.le_refl _), List.take_length]; rfl
theorem bst1_no {fr : List Nat} {y f e t : Nat} {s : Nat × Nat × Nat} (h : f ≠ y ∨ nth fr t + 1 ≠ nth fr y ∨ (s.2.1 ≠ 0 ∧ s.2.2 ≤ e)) : bst1 fr y s (f, e, t) = (s.1 + 1, s.2.1, s.2.2) := by
  unfold bst1
  have hc : (Nat.beq f y && Nat.beq (Nat.succ (nth fr t)) (nth fr y) && (Nat.beq s.2.1 0 || Nat.blt e s.2.2)) = false := by
    rcases h with h | h | ⟨h1, h2⟩
    · rw [beq_ne h]; rfl
    · rw [beq_ne (show Nat.succ (nth fr t) ≠ nth fr y from h)]; simp
    · rw [beq_ne h1]
      have : Nat.blt e s.2.2 = false := by
        cases e2 : Nat.blt e s.2.2
        · rfl
        · rw [Nat.blt_eq] at e2; omega
      rw [this]; simp
  show cond _ _ _ = _
  rw [hc]; rfl
theorem bst1_yes {fr : List Nat} {y f e t : Nat} {s : Nat × Nat × Nat} (h1 : f = y) (h2 : nth fr t + 1 = nth fr y) (h3 : s.2.1 = 0 ∨ e < s.2.2) : bst1 fr y s (f, e, t) = (s.1 + 1, s.1 + 1, e) := by
  unfold bst1
  have hc : (Nat.beq f y && Nat.beq (Nat.succ (nth fr t)) (nth fr y) && (Nat.beq s.2.1 0 || Nat.blt e s.2.2)) = true := by
    rw [h1, show Nat.succ (nth fr t) = nth fr y from h2]
    simp only [Nat.beq_refl, Bool.true_and, Bool.or_eq_true]
    rcases h3 with h3 | h3
    · left; rw [h3]; rfl
    · right; rw [Nat.blt_eq]; exact h3
  show cond _ _ _ = _
  rw [hc]; rfl
theorem bK_inv (fr : List Nat) (y : Nat) (ms : List (Nat × Nat × Nat)) (k : Nat) : (bK fr y ms k).1 = k ∧ (bK fr y ms k).2.1 ≤ k ∧ ((bK fr y ms k).2.1 ≠ 0 → (bK fr y ms k).2.2 = (nthM ms ((bK fr y ms k).2.1 - 1)).2.1) := by
  induction k with
  | zero => exact ⟨rfl, Nat.le_refl _, fun h => absurd rfl h⟩
  | succ k ih =>
    obtain ⟨h1, h2, h3⟩ := ih
    show (bst1 fr y (bK fr y ms k) (nthM ms k)).1 = _ ∧ (bst1 fr y (bK fr y ms k) (nthM ms k)).2.1 ≤ _ ∧ ((bst1 fr y (bK fr y ms k) (nthM ms k)).2.1 ≠ 0 → (bst1 fr y (bK fr y ms k) (nthM ms k)).2.2 = (nthM ms ((bst1 fr y (bK fr y ms k) (nthM ms k)).2.1 - 1)).2.1)
    unfold bst1
    cases (Nat.beq (nthM ms k).1 y && Nat.beq (Nat.succ (nth fr (nthM ms k).2.2)) (nth fr y) && (Nat.beq (bK fr y ms k).2.1 0 || Nat.blt (nthM ms k).2.1 (bK fr y ms k).2.2))
    · refine ⟨?_, ?_, ?_⟩
      · show Nat.succ _ = _; omega
      · show (bK fr y ms k).2.1 ≤ _; omega
      · exact h3
    · refine ⟨?_, ?_, ?_⟩
      · show Nat.succ _ = _; omega
      · show Nat.succ _ ≤ _; omega
      · intro _
        show (nthM ms k).2.1 = (nthM ms (Nat.succ (bK fr y ms k).1 - 1)).2.1
        rw [h1]; rfl
theorem chkS_out {fr : List Nat} {ms : List (Nat × Nat × Nat)} {k y : Nat} {P : List Nat} (h : chkS fr ms k y P = true) (hy : y ≠ k) : ∃ b P', P = b :: P' ∧ (bst fr y ms).2.1 = b + 1 ∧ b < ms.length ∧ chkS fr ms k (nthM ms b).2.2 P' = true := by
  cases P with
  | nil => exact absurd (Nat.eq_of_beq_eq_true h) hy
  | cons b P' =>
    simp only [chkS, Bool.and_eq_true] at h
    exact ⟨b, P', rfl, Nat.eq_of_beq_eq_true h.2.1, by simpa using h.2.2.1, h.2.2.2⟩
theorem chkS_end {fr : List Nat} {ms : List (Nat × Nat × Nat)} {k : Nat} {P : List Nat} (h : chkS fr ms k k P = true) : P = [] := by
  cases P with
  | nil => rfl
  | cons b P' => simp [chkS] at h
theorem fold_le (ms : List (Nat × Nat × Nat)) : ∀ (l : List Nat) (b : Nat), (∀ i, nth l i ≤ b) → ∀ i, nth (ms.foldl rel1 l) i ≤ b + ms.length := by
  induction ms with
  | nil => intro l b h i; exact h i
  | cons m ms ih =>
    intro l b h i
    have := ih (rel1 l m) (b + 1) (max_rel m h) i
    simp only [List.foldl_cons, List.length_cons]
    omega
theorem relN_le (ms : List (Nat × Nat × Nat)) (l : List Nat) (b r : Nat) (h : ∀ i, nth l i ≤ b) : ∀ i, nth (relN ms l r) i ≤ b + ms.length * r := by
  induction r with
  | zero => intro i; simpa [relN] using h i
  | succ r ih =>
    intro i
    have := fold_le ms (relN ms l r) _ ih i
    show nth (ms.foldl rel1 (relN ms l r)) i ≤ _
    rw [Nat.mul_succ]
    omega
theorem far_le {n k : Nat} (ms : List (Nat × Nat × Nat)) (hk : k < n) (hn : n ≤ 20) (hm : ms.length ≤ 45) : ∀ i, nth (far n ms [k]) i ≤ 1000 := by
  intro i
  have h := relN_le ms (goal0 n [k]) 1 n (fun i => by
    show nth (setN (List.replicate n 0) k 1) i ≤ 1
    rw [nth_setN (by simpa using hk), nth_rep]
    split <;> omega) i
  have h2 : ms.length * n ≤ 45 * 20 := Nat.mul_le_mul hm hn
  show nth (relN ms (goal0 n [k]) n) i ≤ _
  omega
theorem one_lt {k n : Nat} (h : k < n) : ∀ i, i < 1 → nth [k] i < n := by
  intro i hi
  have e : i = 0 := by omega
  subst e
  exact h
theorem one_n_row (w : World) (k : Nat) (t : TypeId) : Row (w.alloc (.cells #[.int .i64 (k : Nat)] t)) w.heap.size 0 (1 * 1) (nc [k]) := by
  refine ⟨by simp, fun i hi => ?_⟩
  have e : i = 0 := by omega
  subst e
  exact boxed_at rfl rfl
theorem chkW_out {x k : Nat} (hx : x < 80) (hk : k < (R x).length) : (pathI (M x) 21 k).length < 20 ∧ chkI (M x) k (pathI (M x) 21 k) = true ∧ chkS (far (R x).length (M x) [k]) (M x) k 0 (pathI (M x) 21 k).reverse = true := by
  have h := all80_out chkW_ok x hx
  unfold chkW at h
  rw [withX_eq, forceN_eq] at h
  have h2 := upto_out h k hk
  simp only [forceL_eq] at h2
  have h3 := farW_sound h2
  simp only [Bool.and_eq_true, Nat.blt_eq, chkSF_eq] at h3
  exact ⟨h3.1, h3.2.1, h3.2.2⟩

set_option maxHeartbeats 3200000 in
theorem s_WayTo_yes (x y k : Nat) (P : List Nat) (W : World) (hx : x < 80) (hy : y < 80) (hh : hasN (R x) y = true) (hk : idxN (R x) y = k) (hP : chkS (far (R x).length (M x) [k]) (M x) k 0 P = true) (hPl : P.length < 20) :
    Calls Try.prog 49 #[.agg #[.int .i64 (cm x : Nat), .bool (co x), .bool (ca x), .bool (cb x), .bool (ce x)], .agg #[.int .i64 (cm y : Nat), .bool (co y), .bool (ca y), .bool (cb y), .bool (ce y)]] W (WyPost (evL (M x) P) W) := by
  obtain ⟨i0, hi, hz0, hz1, hz2⟩ := info_parts infoInt
  have KA := kept_alloc (Below.refl W.heap.size W) (.cells #[.int .i64 (cm x : Nat), .bool (co x), .bool (ca x), .bool (cb x), .bool (ce x)] 53)
  have KB := kept_alloc KA (.cells #[.int .i64 (cm y : Nat), .bool (co y), .bool (ca y), .bool (cb y), .bool (ce y)] 53)
  have hn2 : (W.alloc (.cells #[.int .i64 (cm x : Nat), .bool (co x), .bool (ca x), .bool (cb x), .bool (ce x)] 53)).heap.size = W.heap.size + 1 := by simp
  obtain ⟨WB, hWB⟩ : ∃ WB, WB = (W.alloc (.cells #[.int .i64 (cm x : Nat), .bool (co x), .bool (ca x), .bool (cb x), .bool (ce x)] 53)).alloc (.cells #[.int .i64 (cm y : Nat), .bool (co y), .bool (ca y), .bool (cb y), .bool (ce y)] 53) := ⟨_, rfl⟩
  have P0 : Hid (WB.cell? ⟨W.heap.size, 0, none⟩ = some (.int .i64 (cm x : Nat))) := by rw [hWB]; exact cell_keep (kept_alloc (Below.refl _ _) _) (boxed_at rfl rfl)
  have Q0 : Hid (WB.cell? ⟨W.heap.size + 1, 0, none⟩ = some (.int .i64 (cm y : Nat))) := by rw [hWB]; exact boxed_at hn2 rfl
  have P1 : Hid (WB.cell? ⟨W.heap.size, 1, none⟩ = some (.bool (co x))) := by rw [hWB]; exact cell_keep (kept_alloc (Below.refl _ _) _) (boxed_at rfl rfl)
  have Q1 : Hid (WB.cell? ⟨W.heap.size + 1, 1, none⟩ = some (.bool (co y))) := by rw [hWB]; exact boxed_at hn2 rfl
  have P2 : Hid (WB.cell? ⟨W.heap.size, 2, none⟩ = some (.bool (ca x))) := by rw [hWB]; exact cell_keep (kept_alloc (Below.refl _ _) _) (boxed_at rfl rfl)
  have Q2 : Hid (WB.cell? ⟨W.heap.size + 1, 2, none⟩ = some (.bool (ca y))) := by rw [hWB]; exact boxed_at hn2 rfl
  have P3 : Hid (WB.cell? ⟨W.heap.size, 3, none⟩ = some (.bool (cb x))) := by rw [hWB]; exact cell_keep (kept_alloc (Below.refl _ _) _) (boxed_at rfl rfl)
  have Q3 : Hid (WB.cell? ⟨W.heap.size + 1, 3, none⟩ = some (.bool (cb y))) := by rw [hWB]; exact boxed_at hn2 rfl
  have P4 : Hid (WB.cell? ⟨W.heap.size, 4, none⟩ = some (.bool (ce x))) := by rw [hWB]; exact cell_keep (kept_alloc (Below.refl _ _) _) (boxed_at rfl rfl)
  have Q4 : Hid (WB.cell? ⟨W.heap.size + 1, 4, none⟩ = some (.bool (ce y))) := by rw [hWB]; exact boxed_at hn2 rfl
  have hm0 : inB (cm x : Nat) 0 4 = true := inB_yes (by omega) (by have := cm_lt hx; omega)
  have hm1 : inB (cm y : Nat) 0 4 = true := inB_yes (by omega) (by have := cm_lt hy; omega)
  have HO0 := Lib.hid (fun w h => s_l13Ok (cm x : Nat) W.heap.size 0 w h)
  have HO1 := Lib.hid (fun w h => s_l13Ok (cm y : Nat) (W.heap.size + 1) 0 w h)
  rw [hm0] at HO0
  rw [hm1] at HO1
  have HRc := Lib.hid (fun w => s_l15Reached x w hx)
  unfold SReachPost at HRc
  have HMv := Lib.hid (fun v w h => s_l15Moves x v w hx h)
  unfold SMovesPost at HMv
  have hR20 : (R x).length ≤ 20 := (chk0_out hx).2.2.1
  have hM45 : (M x).length ≤ 45 := (chk0_out hx).2.2.2.1
  have hM1 : 1 ≤ (M x).length := by have := (chk0_out hx).2.2.2.2; omega
  have hR1 := R_pos hx
  have HLO := Lib.hid (R_low hx)
  unfold low80 at HLO
  have HMI := Lib.hid (fun i h => M_in (x := x) hx (i := i) h)
  have hfi := fi_has hh
  rw [hk] at hfi
  have hkl : k < (R x).length := by rw [← hk]; exact idx_lt hh
  have HF := Lib.hid (fun v vg w hs hg => s_l15Far (R x).length (M x).length 1 (M x) [k] v vg w hs hg ⟨hR1, hR20⟩ hM45 (by omega) rfl rfl (fun i hi => ⟨((HMI.out i hi).1), (HMI.out i hi).2.1⟩) (one_lt hkl))
  unfold FarPost at HF
  have HFL := Lib.hid (far_le (M x) hkl hR20 hM45)
  rw [← hWB] at KB
  have HWB := Lib.hid hWB
  have hWBs : W.heap.size ≤ WB.heap.size := KB.size
  clear hm0 hm1 hh hk hWB hn2 KA
  unfold WyPost
  generalize far (R x).length (M x) [k] = FR at *
  generalize M x = ms at *
  generalize R x = L at *
  obtain ⟨n, hn⟩ : ∃ n, ms.length = n := ⟨_, rfl⟩
  obtain ⟨nL, hnL⟩ : ∃ n, L.length = n := ⟨_, rfl⟩
  rw [hn] at HMv hM45 hM1 HMI HF
  rw [hnL] at HRc HMv hR20 HLO hkl hR1 HMI HF
  have HX := Lib.hid (fun w v hs => s_l15Find v nL y L w hs hnL (by omega) hy HLO)
  rw [hfi] at HX
  have HN := Lib.hid hn
  have HP := Lib.hid hP
  obtain ⟨EF, hEF⟩ : ∃ E, evL ms P = E := ⟨_, rfl⟩
  obtain ⟨np, hnp⟩ : ∃ n, P.length = n := ⟨_, rfl⟩
  have hEl : EF.length = np := by rw [← hEF]; simp [evL, hnp]
  rw [hEF]
  rw [hnp] at hPl
  have HE := Lib.hid (show [] ++ evL ms P = EF by rw [hEF]; rfl)
  have HNP := Lib.hid hnp
  have HEL := Lib.hid hEl
  have HPP : Hid (np ≤ 0 + P.length ∧ 0 + P.length ≤ np) := ⟨by omega, by omega⟩
  clear hn hnL hfi hP hEF hnp hEl
  go_enter Try.func49, Try.ntmps49
  go_upto_region 1 with (fail)
  rw [← HWB.out]
  have p0 := P0.out
  have p1 := P1.out
  have p2 := P2.out
  have p3 := P3.out
  have p4 := P4.out
  go_wp2_with (first | (go_at_call 83; refine (HO0.out _ P0.out).mono ?_; rintro e w' ⟨rfl, rfl⟩) | (go_at_call 83; refine (HO1.out _ Q0.out).mono ?_; rintro e w' ⟨rfl, rfl⟩) | (go_at_call 85; refine (HRc.out _).mono ?_; rintro e w3 ⟨v1, rfl, hb3, ho1⟩) | (go_at_call 84; refine (HMv.out _ _ (ho1.sl (by omega))).mono ?_; rintro e w4 ⟨v2, rfl, hb4, ho2⟩; have hk4 := kept_trans hb3 hb4; have q0 := cell_keep hk4 Q0.out; have q1 := cell_keep hk4 Q1.out; have q2 := cell_keep hk4 Q2.out; have q3 := cell_keep hk4 Q3.out; have q4 := cell_keep hk4 Q4.out) | (go_at_call 92; refine (HX.out _ _ ((ho1.sl (by omega)).kept hb4)).mono ?_; rintro e w5 ⟨rfl, hb5⟩; obtain ⟨-, ao1, cap1, hv1, -⟩ := ho1.sl (by omega); subst hv1) | (go_at_call 93; refine (HF.out _ _ _ ((ho2.sl (by omega)).kept (kept_alloc hb5 _)) (Sl.of_row (n := 1) (k := 1) (by omega) (one_n_row _ _ _))).mono ?_; rintro e w6 ⟨v3, rfl, hb6, ho3⟩))
  obtain ⟨gm, capm, rfl, -, hrm⟩ := ho2.opened (by omega)
  obtain ⟨g3, cap3, rfl, -, hr3⟩ := ho3.opened (by omega)
  have K46 := kept_trans (kept_alloc hb5 (.cells #[.int .i64 (k : Nat)] 2)) hb6
  have HRM := Lib.hid (hrm.kept K46)
  have HR3 := Lib.hid hr3
  have KW6 : Below W.heap.size W w6 := kept_trans (kept_trans KB hk4) K46
  have O0 := Out.empty w6 2 1 (nc []) w6.heap.size (Nat.le_refl _)
  have K7 := kept_alloc (Below.refl w6.heap.size w6) (.cells #[] 2)
  clear hrm hr3 ho1 ho2 ho3 K46 hb5 hb6 hk4 hb4 hb3 p0 p1 p2 p3 p4 q0 q1 q2 q3 q4 HO0 HO1 HRc HMv HX HF
  go_loopw [10, 11] (fun u a wr => ∃ (z q : Nat) (Q' E : List Nat) (x1 : Value), x1 = u ∧ a = .int .i64 z ∧ z < nL ∧ Hid (slen x1 = q) ∧ Hid (np ≤ q + Q'.length ∧ q + Q'.length ≤ np) ∧ Hid (chkS FR ms k z Q' = true) ∧ Hid (E ++ evL ms Q' = EF) ∧ Hid (E.length = q) ∧ Below w6.heap.size w6 wr ∧ Out wr w6.heap.size 2 1 x1 q (nc E)) (fun u _ _ => np - slen u)
  case atStart => exact ⟨0, 0, P, [], _, rfl, rfl, by omega, rfl, HPP, HP, HE, rfl, K7, O0⟩
  case round =>
    clear K7 O0
    obtain ⟨z, q, Q', E, x1, rfl, rfl, hz, hsl, hq, hch, hE, hEq, hb, hown⟩ := hrel
    by_cases hzk : z = k
    · have hPe := chkS_end (by have := hch.out; rw [hzk] at this; exact this)
      have hEE := hE.out
      rw [hPe] at hEE
      have hEE2 : E = EF := by rw [← hEE]; simp [evL]
      have R1 : Hid (Out wr W.heap.size 2 1 x1 EF.length (nc EF)) := by rw [← hEE2, hEq.out]; exact hown.base_le KW6.size
      have d0 : ((z : Int) != k) = false := by simp; omega
      obtain ⟨-, ax, cx, hx1, -⟩ := hown.sl (by have := HEL.out; have h2 := congrArg List.length hEE2; rw [hEq.out] at h2; omega)
      subst hx1
      clear hPe hEE hEE2 hzk hown
      go_wp2
      refine bodyPost_ret (results_tmp2 rfl _ _ _) rfl ⟨_, rfl, kept_trans KW6 hb, R1.out⟩
    · obtain ⟨b, Q'', hPe, hbst, hbl, hch2⟩ := chkS_out hch.out hzk
      have hbn : b < n := by rw [← HN.out]; exact hbl
      obtain ⟨f0, e0, t0, hm0⟩ : ∃ f e t, nthM ms b = (f, e, t) := ⟨_, _, _, rfl⟩
      rw [hm0] at hch2
      simp only at hch2
      have HCH := Lib.hid hch2
      have HE2 := Lib.hid (show (E ++ [e0]) ++ evL ms Q'' = EF by rw [← hE.out, hPe]; simp [evL, hm0])
      have HQ2 : Hid (np ≤ (q + 1) + Q''.length ∧ (q + 1) + Q''.length ≤ np) := by
        have := hq.out; rw [hPe] at this; simp only [List.length_cons] at this; exact ⟨by omega, by omega⟩
      have HEq2 := Lib.hid (show (E ++ [e0]).length = q + 1 by simp [hEq.out])
      have hqn : q < np := by have := HQ2.out; omega
      have d0 : ((z : Int) != k) = true := by simp; omega
      have HM0 := Lib.hid hm0
      have HBST := Lib.hid (show (bK FR z ms n).2.1 = b + 1 by rw [← HN.out, bK_end]; exact hbst)
      have HSL := hsl.out
      have hms : np - (q + 1) < np - slen x1 := by rw [HSL]; omega
      have ht0 : t0 < nL := by have := (HMI.out b hbn).2.1; rw [hm0] at this; exact this
      clear hPe hbst hbl hch2 hm0 hzk HSL
      go_wp2
      go_loopw [12, 13] (fun u i wr => ∃ (i' bi be : Nat) (BZ : Int), i' ≤ n ∧ i = .int .i64 i' ∧ u = .int .i64 BZ ∧ Hid ((bi : Int) - 1 = BZ) ∧ Hid (bK FR z ms i' = (i', bi, be)) ∧ Below w6.heap.size w6 wr ∧ Out wr w6.heap.size 2 1 x1 q (nc E)) (fun _ i _ => n - (intOf i).toNat)
      case atStart => exact ⟨0, 0, 0, -1, by omega, rfl, rfl, by show ((0 : Nat) : Int) - 1 = -1; omega, rfl, hb, hown⟩
      case round =>
        clear hb hown
        obtain ⟨i', bi, be, BZ, hi', rfl, rfl, hBZ, hK, hb2, hown2⟩ := hrel
        by_cases hin : i' < n
        · obtain ⟨f, e, t, hm⟩ : ∃ f e t, nthM ms i' = (f, e, t) := ⟨_, _, _, rfl⟩
          have htn : t < nL := by have := (HMI.out i' hin).2.1; rw [hm] at this; exact this
          obtain ⟨s0, s1, s2⟩ := mvcells (HRM.out.kept hb2) hin hm
          simp only [Nat.zero_add] at s0 s1 s2
          have cz := (HR3.out.kept hb2).cell (i := z) (by omega)
          have ct := (HR3.out.kept hb2).cell (i := t) (by omega)
          unfold fc at cz ct
          simp only [Nat.zero_add] at cz ct
          have HNX := Lib.hid (show bK FR z ms (i' + 1) = bst1 FR z (i', bi, be) (f, e, t) by show bst1 FR z (bK FR z ms i') (nthM ms i') = _; rw [hK.out, hm])
          have hinv := bK_inv FR z ms i'
          rw [hK.out] at hinv
          obtain ⟨-, hbi, hbe⟩ := hinv
          simp only at hbi hbe
          have hyz := HFL.out z
          have hyt := HFL.out t
          obtain ⟨yz, hyz0⟩ : ∃ a, nth FR z = a := ⟨_, rfl⟩
          obtain ⟨yt, hyt0⟩ : ∃ a, nth FR t = a := ⟨_, rfl⟩
          rw [hyz0] at cz hyz
          rw [hyt0] at ct hyt
          obtain ⟨Y, hY⟩ : ∃ Y : Int, (yz : Int) - 1 = Y := ⟨_, rfl⟩
          obtain ⟨T, hT⟩ : ∃ T : Int, (yt : Int) - 1 = T := ⟨_, rfl⟩
          rw [hY] at cz
          rw [hT] at ct
          have e1 : IntKind.i64.wrap (Y - 1) = Y - 1 := IntWalk.i64_in _ (by omega)
          have hz1 : (z : Int) < nL := by omega
          have hz00 : (0 : Int) ≤ z := by omega
          have ht1 : (t : Int) < nL := by omega
          have ht00 : (0 : Int) ≤ t := by omega
          have hi1 : (i' : Int) < n := by omega
          have hi00 : (0 : Int) ≤ i' := by omega
          by_cases h1 : f = z
          · have d1 : ((f : Int) == z) = true := by simp; omega
            by_cases h2 : yt + 1 = yz
            · have d2 : (T == Y - 1) = true := by simp; omega
              by_cases h3 : bi = 0
              · have HN2 := Lib.hid (show bK FR z ms (i' + 1) = (i' + 1, i' + 1, e) by rw [HNX.out, bst1_yes h1 (by rw [hyz0, hyt0]; exact h2) (.inl h3)])
                have HBZ : Hid (((i' + 1 : Nat) : Int) - 1 = (i' : Int)) := by show _ = _; omega
                have d3 : decide (BZ < 0) = true := by have := hBZ.out; simp; omega
                clear HNX hm hyz0 hyt0 hY hT h1 h2 h3 hbe
                go_wp2_with fail
                go_quiet (fail)
                clear e1 d1 d2 d3
                go_wp2_with fail
                go_roundw
                case rel => exact ⟨i' + 1, i' + 1, e, i', by omega, by go_num, rfl, HBZ, HN2, kept_drewN hb2 _, hown2.kept (kept_drewN (Below.refl _ _) _)⟩
                case measure => simp [intOf]; omega
              · obtain ⟨bn, hbn2⟩ : ∃ bn : Nat, BZ = bn := ⟨bi - 1, by have := hBZ.out; omega⟩
                have hbn3 : bi - 1 = bn := by have := hBZ.out; omega
                have hbnn : bn < n := by omega
                obtain ⟨f2, e2, t2, hm2⟩ : ∃ f e t, nthM ms bn = (f, e, t) := ⟨_, _, _, rfl⟩
                have hbe2 : be = e2 := by rw [hbe h3, hbn3, hm2]
                obtain ⟨r0, r1, r2⟩ := mvcells (HRM.out.kept hb2) hbnn hm2
                simp only [Nat.zero_add] at r0 r1 r2
                subst hbn2
                have hb1 : (bn : Int) < n := by omega
                have hb00 : (0 : Int) ≤ bn := by omega
                have d3 : decide ((bn : Int) < 0) = false := by simp
                by_cases h4 : e < e2
                · have HN2 := Lib.hid (show bK FR z ms (i' + 1) = (i' + 1, i' + 1, e) by rw [HNX.out, bst1_yes h1 (by rw [hyz0, hyt0]; exact h2) (.inr (by show e < be; omega))])
                  have HBZ : Hid (((i' + 1 : Nat) : Int) - 1 = (i' : Int)) := by show _ = _; omega
                  have d4 : decide ((e : Int) < e2) = true := by simpa using h4
                  clear HNX hm hm2 hyz0 hyt0 hY hT h1 h2 h3 hbe hbe2 hbn3
                  go_wp2_with fail
                  go_quiet (fail)
                  clear e1 d1 d2 d3 d4
                  go_wp2_with fail
                  go_roundw
                  case rel => exact ⟨i' + 1, i' + 1, e, i', by omega, by go_num, rfl, HBZ, HN2, kept_drewN hb2 _, hown2.kept (kept_drewN (Below.refl _ _) _)⟩
                  case measure => simp [intOf]; omega
                · have HN2 := Lib.hid (show bK FR z ms (i' + 1) = (i' + 1, bi, be) by rw [HNX.out, bst1_no (.inr (.inr ⟨h3, by show be ≤ e; omega⟩))])
                  have d4 : decide ((e : Int) < e2) = false := by simp; omega
                  clear HNX hm hm2 hyz0 hyt0 hY hT h1 h2 h3 hbe hbe2 hbn3
                  go_wp2_with fail
                  go_quiet (fail)
                  clear e1 d1 d2 d3 d4
                  go_wp2_with fail
                  go_roundw
                  case rel => exact ⟨i' + 1, bi, be, bn, by omega, by go_num, rfl, hBZ, HN2, kept_drewN hb2 _, hown2.kept (kept_drewN (Below.refl _ _) _)⟩
                  case measure => simp [intOf]; omega
            · have HN2 := Lib.hid (show bK FR z ms (i' + 1) = (i' + 1, bi, be) by rw [HNX.out, bst1_no (.inr (.inl (by rw [hyz0, hyt0]; exact h2)))])
              have d2 : (T == Y - 1) = false := by simp; omega
              clear HNX hm hyz0 hyt0 hY hT h1 h2 hbe
              go_wp2_with fail
              go_quiet (fail)
              clear e1 d1 d2
              go_wp2_with fail
              go_roundw
              case rel => exact ⟨i' + 1, bi, be, BZ, by omega, by go_num, rfl, hBZ, HN2, kept_drewN hb2 _, hown2.kept (kept_drewN (Below.refl _ _) _)⟩
              case measure => simp [intOf]; omega
          · have HN2 := Lib.hid (show bK FR z ms (i' + 1) = (i' + 1, bi, be) by rw [HNX.out, bst1_no (.inl h1)])
            have d1 : ((f : Int) == z) = false := by simp; omega
            clear HNX hm hyz0 hyt0 hY hT h1 hbe
            go_wp2_with fail
            go_quiet (fail)
            clear e1 d1
            go_wp2_with fail
            go_roundw
            case rel => exact ⟨i' + 1, bi, be, BZ, by omega, by go_num, rfl, hBZ, HN2, kept_drewN hb2 _, hown2.kept (kept_drewN (Below.refl _ _) _)⟩
            case measure => simp [intOf]; omega
        · obtain rfl : i' = n := by omega
          have hbb := HBST.out
          rw [hK.out] at hbb
          simp only at hbb
          obtain rfl : BZ = (b : Int) := by have := hBZ.out; omega
          obtain ⟨s0, s1, s2⟩ := mvcells (HRM.out.kept hb2) hbn HM0.out
          simp only [Nat.zero_add] at s0 s1 s2
          have hb1 : (b : Int) < i' := by omega
          have hb00 : (0 : Int) ≤ b := by omega
          clear hbb
          go_wp2_with ((at_builtin; refine wpList_append_own _ rfl _ _ 35 rfl _ 2 i0 _ 1 8 Try.underlying35 hi hz0 hz1 hz2 rfl (by decide) _ _ _ rfl ((hown2).row.alloc _) ⟨wr.heap.size, 0, none⟩ 1 1 _ (by rfl) (by rfl) (laid_at (by simp)) (by intro u hu; simp at hu; first | (rcases hu with rfl | rfl | rfl | rfl | rfl <;> rfl) | (rcases hu with rfl | rfl | rfl <;> rfl) | (rcases hu with rfl | rfl <;> rfl) | (subst hu; rfl)) (by simp only [maxLen]; omega) (by omega) (by have hbs := hb2.size; simp at hbs ⊢; omega) ?_; intro v1 w1 hown1 hgrow1 _); have hbN := below_append hb2 (Nat.le_refl _) hown2.row hgrow1; obtain ⟨u0, u1, u2⟩ := mvcells (HRM.out.kept hbN) hbn HM0.out; simp only [Nat.zero_add] at u0 u1 u2)
          have RE := out_n hEq.out hown1
          have SL1 := Lib.hid (slen_of RE)
          clear hown2 hown1 hgrow1 hb2 s0 s1 s2
          try go_wp2
          go_roundw
          case rel => exact ⟨t0, q + 1, Q'', E ++ [e0], _, rfl, rfl, ht0, SL1, HQ2, HCH, HE2, HEq2, hbN, RE⟩
          case measure => rw [SL1.out]; exact hms

end Go.Proofs.Ytkloolhngddpiaa
