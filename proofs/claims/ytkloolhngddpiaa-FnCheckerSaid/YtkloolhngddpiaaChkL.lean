/- The law on the checker: the walk. -/
import Derived.Test.YtkloolhngddpiaaChkU
import Derived.Test.YtkloolhngddpiaaChkT
import Derived.Test.YtkloolhngddpiaaChkR
import Derived.Test.YtkloolhngddpiaaDead
import Derived.Test.YtkloolhngddpiaaWayI
import Derived.Test.YtkloolhngddpiaaSrcFrom
import Derived.Deep.DeepCutAuto
import Derived.Deep.QuietTactic
import Derived.BigQuiet
import Derived.Deep.RegionHeld3
namespace Go.Proofs.Ytkloolhngddpiaa
open Go.RowKit Go.Deep
set_option linter.unusedVariables false
set_option maxRecDepth 100000

theorem st_neq_same (y : Nat) (w : World) : (Go.binOp .neq 53 (.agg #[.int .i64 (cm y : Nat), .bool (co y), .bool (ca y), .bool (cb y), .bool (ce y)]) (.agg #[.int .i64 (cm y : Nat), .bool (co y), .bool (ca y), .bool (cb y), .bool (ce y)])).run Try.prog w = .ok (.bool false) w := by
  rw [run_neq_struct]
  simp [go_sem]
theorem st_eql_same (y : Nat) (w : World) : (Go.binOp .eql 53 (.agg #[.int .i64 (cm y : Nat), .bool (co y), .bool (ca y), .bool (cb y), .bool (ce y)]) (.agg #[.int .i64 (cm y : Nat), .bool (co y), .bool (ca y), .bool (cb y), .bool (ce y)])).run Try.prog w = .ok (.bool true) w := by
  rw [run_eql_struct]
  simp [go_sem]

theorem mv_law {x : Nat} (hx : x < 80) : ∀ i j, i < (R x).length → j < 9 →
    (al (nth (R x) i) (j + 1) = true → ∃ t, pos (R x) i j < (M x).length ∧ nthM (M x) (pos (R x) i j) = (i, j + 1, t) ∧ t < (R x).length ∧ nth (R x) t = nx (nth (R x) i) (j + 1) ∧ pos (R x) i (j + 1) = pos (R x) i j + 1) ∧
    (al (nth (R x) i) (j + 1) = false → pos (R x) i (j + 1) = pos (R x) i j) := by
  intro i j hi hj
  refine ⟨fun ha => ?_, fun ha => pos_no _ ha⟩
  obtain ⟨h1, h2, h3⟩ := pos_yes (R x) (n := (R x).length) hi hj ha
  have hh := R_has hx hi (k := j + 1) (by omega) ha
  exact ⟨_, h1, h2, idx_lt hh, nth_idx hh, h3⟩
/-- The way to a state at its place. -/
theorem way_law {x : Nat} (hx : x < 80) : ∀ k, k < (R x).length → ∃ P : List Nat, hasN (R x) (nth (R x) k) = true ∧ idxN (R x) (nth (R x) k) = k ∧ chkI (M x) k P = true ∧ P.length < 20 ∧
    (evL (M x) P).reverse.length < (R x).length ∧ wk x (evL (M x) P).reverse (nth (R x) k) = true := by
  intro k hk
  obtain ⟨h1, h2⟩ := (chkV_out hx).2.2.2 k hk
  have hw := all80_out chkW_ok x hx
  unfold chkW at hw
  simp only [withX_eq, forceN_eq, forceL_eq] at hw
  have h3 := upto_out hw k hk
  have h4 := farW_sound h3
  simp only [Bool.and_eq_true, Nat.blt_eq] at h4
  exact ⟨_, has_nth hk, idx_nth (chkV_out hx).2.1 hk, h4.2.1, h4.1, by unfold evL; simpa using h1, h2⟩

theorem left_set {w : World} {g N k e : Nat} {t : TypeId} {F : Nat → Value} {ms : List (Nat × Nat × Nat)} {cz : Nat → Int} (h : w.rowIs g t N F) (hF : ∀ j, j < 10 → F j = .int .i64 (cz j - (cntK ms k j : Nat))) (he : (nthM ms k).2.1 = e) {d : Int} (hd : cz e - (cntK ms k e : Nat) = d) :
    ∃ F', (w.setCell ⟨g, e, none⟩ (.int .i64 (d - 1))).rowIs g t N F' ∧ ∀ j, j < 10 → F' j = .int .i64 (cz j - (cntK ms (k + 1) j : Nat)) := by
  refine ⟨_, h.set e _, fun j hj => ?_⟩
  have hc : cntK ms (k + 1) j = if j = (nthM ms k).2.1 then cntK ms k j + 1 else cntK ms k j := by rw [cntK]
  rw [hc, he]
  by_cases e2 : j = e
  · subst e2
    simp only [if_pos]
    congr 1
    omega
  · simp only [if_neg e2]
    exact hF j hj

theorem s_R8Control (v : Value) (n : Nat) (W : World) (h : ByS W v n) (hn : n ≤ 1048576) : Calls Try.prog 54 #[v] W fun en W' => ∃ c : Nat, en = .returned (.agg #[.int .i64 (cm c : Nat), .bool (co c), .bool (ca c), .bool (cb c), .bool (ce c)]) ∧ c < 80 ∧ Below W.heap.size W W' := by
  have KA := kept_alloc (Below.refl W.heap.size W) (.cells #[.int .i64 0, .bool false, .bool false, .bool false, .bool false] 53)
  have r0 := Box5.new W (.int .i64 0) (.bool false) (.bool false) (.bool false) (.bool false) 53
  have HF := Lib.hid (src_from v n _ (h.kept KA) hn)
  have hz : (W.alloc (.cells #[.int .i64 0, .bool false, .bool false, .bool false, .bool false] 53)).heap.size = W.heap.size + 1 := by simp
  have hz2 : W.heap.size ≠ W.heap.size + 1 := by omega
  rw [hz] at HF
  obtain ⟨-, ao, cap, rfl, -⟩ := h
  go_enter Try.func54, Try.ntmps54
  go_wp2_with (first
    | (go_at_call 100; refine HF.out.mono ?_; rintro e w1 ⟨rfl, hb1, hs1, -⟩; rw [← hz] at hb1; have r1 := r0.kept hb1; have K1 := kept_trans KA hb1)
    | (go_at_call 101; refine (d_Control _ 0 _ hs1 (by omega)).mono ?_; rintro e w2 ⟨c, rfl, hc, hg2, -⟩; have r2 := r1.grown hg2 hz2; obtain ⟨-, y0, y1, y2, y3, y4, yf⟩ := id r2; have f0 := yf 0; have f1 := yf 1; have f2 := yf 2; have f3 := yf 3; have f4 := yf 4; have K2 := kept_grown K1 hg2 (fun k hk => by simp only [Option.some.injEq] at hk; omega)))
  refine bodyPost_ret (v := .agg #[.int .i64 (cm c : Nat), .bool (co c), .bool (ca c), .bool (cb c), .bool (ce c)]) (by simp [results, go_sem, y0, y1, y2, y3, y4]) rfl ⟨c, rfl, hc, ?_⟩
  exact kept_put K2 (Nat.le_refl _) _ _ _ _ _

set_option maxHeartbeats 80000000 in
theorem l_Checker {W : World} (va : Value) (na : Nat) (ha : ByS W va na) (vb : Value) (nb : Nat) (hb : ByS W vb nb) : Calls Try.prog 12 #[va, vb] W (Truly W) := by
  unfold Truly
  by_cases hl : na ≤ 1048576 ∧ nb ≤ 1048576
  · have HLN : Hid (Calls Try.prog 53 #[va, vb] W fun e W' => e = .returned (.bool false) ∧ W = W') := by
      have := l_r8Long va vb na nb W ha hb
      rw [decide_eq_true hl] at this
      exact this
    have HR := Lib.hid (s_R8Control va na W ha hl.1)
    have HA : Hid (∀ k m w, Below W.heap.size W w → (0 ≤ k ∧ k ≤ 1000000) → (1 ≤ m ∧ m ≤ 1000000) → Calls Try.prog 60 #[vb, .int .i64 k, .int .i64 m] w fun e W' => ∃ x : Int, e = .returned (.int .i64 x) ∧ (0 ≤ x ∧ x < m) ∧ Below w.heap.size w W') := fun k m w h h1 h2 => l_r8At vb nb k m w (hb.kept h) h1 h2
    obtain ⟨-, aoa, capa, rfl, -⟩ := ha
    obtain ⟨-, aob, capb, rfl, -⟩ := hb
    clear hl
    obtain ⟨i0, hi, hz0, hz1, hz2⟩ := info_parts infoInt
    go_enter Try.func12, Try.ntmps12
    go_upto_region 4 with (first
      | (go_at_call 53; refine HLN.out.mono ?_; rintro e w0 ⟨rfl, rfl⟩)
      | (go_at_call 54; refine HR.out.mono ?_; rintro e w1 ⟨c, rfl, hc, hb1⟩))
    have KB := kept_alloc hb1 (.cells #[.int .i64 (cm c : Nat), .bool (co c), .bool (ca c), .bool (cb c), .bool (ce c)] 53)
    have ST := Box5.new w1 (.int .i64 (cm c : Nat)) (.bool (co c)) (.bool (ca c)) (.bool (cb c)) (.bool (ce c)) 53
    have HRc := Lib.hid (fun w => i_ReachedStates_yes c w hc)
    have HSm := Lib.hid (fun w => i_StateMoves_yes c w hc)
    have HMv := Lib.hid (fun w => i_MovesOf c w hc)
    unfold RcPost at HRc
    unfold SmPost at HSm
    unfold MvPost at HMv
    have HFS := Lib.hid (fun w => i_FirstUnsafe c w hc)
    have HAS := Lib.hid (fun w => i_AllSafe c w hc)
    have HA8 : Hid (∀ w, Calls Try.prog 55 #[.agg #[.int .i64 0, .bool false, .bool false, .bool false, .bool true]] w fun en W' => en = .returned (.bool true) ∧ Below w.heap.size w W') := fun w => i_AllSafe_yes 8 w (by omega) allS_8
    have HWY : Hid (∀ k w, k < (R c).length → ∃ E : List Nat, E.length < (R c).length ∧ wk c E (nth (R c) k) = true ∧ Calls Try.prog 50 #[.agg #[.int .i64 (cm c : Nat), .bool (co c), .bool (ca c), .bool (cb c), .bool (ce c)], .agg #[.int .i64 (cm (nth (R c) k) : Nat), .bool (co (nth (R c) k)), .bool (ca (nth (R c) k)), .bool (cb (nth (R c) k)), .bool (ce (nth (R c) k))]] w (WyPost E w)) := fun k w hk => by
      obtain ⟨P, p1, p2, p3, p4, p5, p6⟩ := way_law hc k hk
      exact ⟨_, p5, p6, i_WayTo_yes c (nth (R c) k) k P w hc (R_low hc k hk) p1 p2 p3 p4⟩
    unfold WyPost at HWY
    have HFW := Lib.hid (fun w => i_FewestToRide_yes c w hc)
    have HDD := Lib.hid (fun w => i_DeadStates_yes c w hc)
    unfold DdPost at HDD
    have hR20 : (R c).length ≤ 20 := (chk0_out hc).2.2.1
    have hR1 := R_pos hc
    have hM45 : (M c).length ≤ 45 := (chk0_out hc).2.2.2.1
    have hM1 : 1 ≤ (M c).length := by have := (chk0_out hc).2.2.2.2; omega
    have HLO := Lib.hid (R_low hc)
    unfold low80 at HLO
    have h0 := (chkV_out hc).1
    have hf1 := few_pos c
    have hf2 := (chkV_out hc).2.2.1
    have HND : Hid (∀ i k, k < i → i < (R c).length → nth (R c) k ≠ nth (R c) i) := fun i k h1 h2 => nodup_ne (chkV_out hc).2.1 h1 h2
    have HMW := Lib.hid (mv_law hc)
    have HP9 := Lib.hid (pos_next (R c))
    have hp0 := pos_zero (R c)
    have hpe : pos (R c) (R c).length 0 = (M c).length := pos_end _ _
    have HPL : Hid (∀ i j, i < (R c).length → j ≤ 9 → pos (R c) i j ≤ (M c).length) := fun i j h1 h2 => pos_le (R c) h1 h2
    have HC0 : Hid (cntK (M c) (M c).length 0 = 0) := by
      have key : ∀ k, k ≤ (M c).length → cntK (M c) k 0 = 0 := by
        intro k
        induction k with
        | zero => intro _; unfold cntK; rfl
        | succ k ih =>
          intro hk
          have h := (M_in hc (i := k) (by omega)).2.2.1
          have e1 : cntK (M c) (k + 1) 0 = if 0 = (nthM (M c) k).2.1 then cntK (M c) k 0 + 1 else cntK (M c) k 0 := by rw [cntK]
          rw [e1, if_neg (by omega), ih (by omega)]
      exact key _ (Nat.le_refl _)
    have HCN : Hid (∀ j, cntK (M c) 0 j = 0) := fun j => by unfold cntK; rfl
    have HCL : Hid (∀ k j, cntK (M c) k j ≤ k) := fun k j => cntK_le _ _ _
    have hSK : safeK (R c) (R c).length = allS (R c) := safeK_all
    generalize few c = FF at *
    generalize pos (R c) = ps at *
    generalize M c = ms at *
    generalize R c = L at *
    generalize allS L = AS at *
    obtain ⟨nm, hnm⟩ : ∃ n, ms.length = n := ⟨_, rfl⟩
    obtain ⟨n, hn⟩ : ∃ n, L.length = n := ⟨_, rfl⟩
    rw [hnm] at HSm HMv hM45 hM1 HMW hpe HPL HC0
    rw [hn] at HRc HWY hR20 hR1 HLO hf2 HND HMW hpe HPL hSK
    clear hnm hn HLN HR
    obtain ⟨-, q0, q1, q2, q3, q4, -⟩ := id ST
    go_upto_region 5 with (go_at_call 43; refine (HRc.out _).mono ?_; rintro e w3 ⟨v1, rfl, hb3, ho1⟩)
    have ST3 := ST.kept hb3
    clear q0 q1 q2 q3 q4
    obtain ⟨-, q0, q1, q2, q3, q4, -⟩ := id ST3
    go_upto_region 6 with (go_at_call 38; refine (HSm.out _).mono ?_; rintro e w4 ⟨v2, rfl, hb4, ho2⟩)
    have ST4 := ST3.kept hb4
    clear q0 q1 q2 q3 q4
    obtain ⟨-, q0, q1, q2, q3, q4, -⟩ := id ST4
    go_upto_region 7 with (go_at_call 36; refine (HMv.out _).mono ?_; rintro e w5 ⟨v3, rfl, hb5, ho3⟩)
    have ST5 := ST4.kept hb5
    clear q0 q1 q2 q3 q4
    obtain ⟨g1, cap1, rfl, -, hr1⟩ := ((ho1.kept hb4).kept hb5).opened (by omega)
    obtain ⟨g2, cap2, rfl, -, hr2⟩ := (ho2.kept hb5).opened (by omega)
    obtain ⟨g3, cap3, rfl, -, hr3⟩ := ho3.opened (by omega)
    have hB5 := kept_trans (kept_trans (kept_trans KB hb3) hb4) hb5
    have HL := Lib.hid hr1
    have HM := Lib.hid hr2
    have HC := Lib.hid hr3
    have HST := Lib.hid ST5
    clear hr1 hr2 hr3 ho1 ho2 ho3 ST ST3 ST4 ST5 hb3 hb4 hb5 KB hb1 HRc HSm HMv
    go_cut [92] (fun p wx => p = .bool false ∧ Below w5.heap.size w5 wx)
    case first =>
      as_aux_lemma =>
      obtain ⟨-, q0, q1, q2, q3, q4, -⟩ := id HST.out
      obtain ⟨s0, s1, s2, s3, s4⟩ := stcells HL.out (e := 0) (by omega) h0
      simp only [Nat.zero_mul, Nat.zero_add] at s0 s1 s2 s3 s4
      have c0 := HC.out.cell (i := 0) (by omega)
      simp only [ic, HC0.out, Nat.zero_add] at c0
      have he := st_neq_same c
      have d0 : ((n : Int) == 0) = false := by simp; omega
      have k0 := fun dd os => cell_keep (below_regrown w5 dd os) s0
      have k1 := fun dd os => cell_keep (below_regrown w5 dd os) s1
      have k2 := fun dd os => cell_keep (below_regrown w5 dd os) s2
      have k3 := fun dd os => cell_keep (below_regrown w5 dd os) s3
      have k4 := fun dd os => cell_keep (below_regrown w5 dd os) s4
      have k5 := fun dd os => cell_keep (below_regrown w5 dd os) q0
      have k6 := fun dd os => cell_keep (below_regrown w5 dd os) q1
      have k7 := fun dd os => cell_keep (below_regrown w5 dd os) q2
      have k8 := fun dd os => cell_keep (below_regrown w5 dd os) q3
      have k9 := fun dd os => cell_keep (below_regrown w5 dd os) q4
      have k10 := fun dd os => cell_keep (below_regrown w5 dd os) c0
      clear s0 s1 s2 s3 s4 q0 q1 q2 q3 q4 c0
      go_wp2_with (fail)
      refine wp_region_quiet_below (by kernel_rfl) (by kernel_rfl) ?_
      repeat (go_big_quiet_step ((first | (go_at_call 56; exact Calls.regrown_of (i_FirstState _)) | (go_at_call 55; exact Calls.regrown_of (HA8.out _)))))
      refine wpQuiet_nil ?_
      intro w2 hw2
      have hk := below_of_regrown hw2
      clear hw2 k0 k1 k2 k3 k4 k5 k6 k7 k8 k9 k10
      obtain ⟨hc, hf⟩ := bcell hk
      have hz := hk.size
      try simp at hz
      go_wp2_with (fail)
      go_meet
      exact ⟨rfl, hk⟩
    case rest =>
      as_aux_lemma =>
      obtain ⟨rfl, hbx⟩ := hcut
      clear HA8 h0 HC0
      go_wp2
      go_loopw [12, 13] (fun u i wr => ∃ k : Nat, k ≤ n ∧ u = .bool (safeK L k) ∧ i = .int .i64 k ∧ Below w5.heap.size w5 wr) (fun _ i _ => n - (intOf i).toNat)
      case atStart => exact ⟨0, by omega, rfl, rfl, hbx⟩
      case round =>
        clear hbx
        obtain ⟨k, hk, rfl, rfl, hbk⟩ := hrel
        by_cases hlt : k < n
        · as_aux_lemma =>
          obtain ⟨ck, hck⟩ : ∃ c', nth L k = c' := ⟨_, rfl⟩
          have hc80 : ck < 80 := by rw [← hck]; exact HLO.out k hlt
          have HSF := Lib.hid (fun w => s_IsSafeState ck w hc80)
          have HS1 : Hid (safeK L (k + 1) = (safeK L k && safeC ck)) := by rw [← hck]; rfl
          go_wp2
          go_loopw [14] (fun i wq => ∃ j : Nat, j ≤ k ∧ i = .int .i64 j ∧ Below w5.heap.size w5 wq) (fun i _ => k - (intOf i).toNat)
          case atStart => exact ⟨0, by omega, rfl, hbk⟩
          case round =>
            clear hbk
            obtain ⟨j, hj, rfl, hbj⟩ := hrel
            obtain ⟨s0, s1, s2, s3, s4⟩ := stcells (HL.out.kept hbj) hlt hck
            simp only [Nat.zero_add] at s0 s1 s2 s3 s4
            by_cases hjl : j < k
            · as_aux_lemma =>
              obtain ⟨cj, hcj⟩ : ∃ c', nth L j = c' := ⟨_, rfl⟩
              have hj80 : cj < 80 := by rw [← hcj]; exact HLO.out j (by omega)
              obtain ⟨t0, t1, t2, t3, t4⟩ := stcells (HL.out.kept hbj) (e := j) (by omega) hcj
              simp only [Nat.zero_add] at t0 t1 t2 t3 t4
              have he := st_eql_no hj80 hc80 (by rw [← hcj, ← hck]; exact HND.out k j hjl hlt)
              clear hcj hck
              go_wp2_with fail
              go_quiet (fail)
              clear he
              go_wp2_with fail
              go_roundw
              case rel => exact ⟨j + 1, by omega, by go_num, kept_drewN hbj _⟩
              case measure => simp [intOf]; omega
            · as_aux_lemma =>
              obtain rfl : k = j := by omega
              clear hck
              cases hsk : safeK L k
              · have HS2 : Hid (safeK L (k + 1) = false) := by rw [HS1.out, hsk]; rfl
                clear HS1 hsk
                go_wp2
                go_roundw
                case rel => exact ⟨k + 1, by omega, by rw [HS2.out], by go_num, hbj⟩
                case measure => simp [intOf]; omega
              · have HS2 : Hid (safeK L (k + 1) = safeC ck) := by rw [HS1.out, hsk]; rfl
                clear HS1 hsk
                go_wp2_with (first | (go_at_call 57; refine (HSF.out _).mono ?_; rintro e w8 ⟨rfl, hb8⟩))
                go_roundw
                case rel => exact ⟨k + 1, by omega, by rw [HS2.out], by go_num, kept_trans hbj hb8⟩
                case measure => simp [intOf]; omega
        · as_aux_lemma =>
          obtain rfl : n = k := by omega
          rw [hSK]
          clear hSK HND
          obtain ⟨cz, hcz⟩ : ∃ cz : Nat → Int, cz = fun j => ((cntK ms nm j : Nat) : Int) := ⟨_, rfl⟩
          have HCZ := Lib.hid hcz
          rw [← hcz] at HC
          clear hcz
          obtain ⟨w, hw⟩ : ∃ w, wr = w := ⟨_, rfl⟩
          rw [hw] at hbk ⊢
          clear hw
          have KA1 := kept_alloc (Below.refl w.heap.size w) (.cells #[] 2)
          have OE : Out (w.alloc (.cells #[] 2)) w.heap.size 2 1 (.slice (some ⟨w.heap.size, 0, none⟩) 0 0) 0 (ic cz) := Out.empty _ _ _ _ _ (Nat.le_refl _)
          have HNW : ∀ j u, (cellsN (ic cz) 10)[j]? = some u → (w.alloc (.cells #[] 2)).cell? ((⟨g3, 0, none⟩ : Addr).add j) = some u := fun j u hj => by
            have hjn : j < 10 := by
              have := (List.getElem?_eq_some_iff.1 hj).1
              simpa [cellsN] using this
            have h1 := ((HC.out.kept hbk).kept KA1).cell (i := j) (by omega)
            have h2 : (cellsN (ic cz) 10)[j]? = some (ic cz j) := by simp [cellsN, List.getElem?_range hjn]
            rw [h2] at hj
            rw [← hj, ← h1]
            by_cases h0 : j = 0
            · simp [Addr.add, h0]
            · simp [Addr.add, h0]
          have HN1 : ∀ u ∈ cellsN (ic cz) 10, u.oneCell' = true := fun u hu => by
            simp only [cellsN, List.mem_map] at hu
            obtain ⟨i, -, rfl⟩ := hu
            rfl
          have HLN : (cellsN (ic cz) 10).length = 10 * 1 := by simp [cellsN]
          go_wp2_with (at_builtin; refine wpList_append_own _ rfl _ _ 35 rfl _ 2 i0 _ 1 8 Try.underlying35 hi hz0 hz1 hz2 rfl (by decide) _ _ _ rfl OE.row ⟨g3, 0, none⟩ 10 cap3 _ (by rfl) HLN HNW HN1 (by simp only [maxLen]; omega) (by omega) (by simp) ?_; intro v6 w6 hown6 hgrow6 _)
          have K6 := KA1.grown hgrow6 (by simp) (fun b hbk => (OE.base b hbk).1)
          have O6 : Out w6 w.heap.size 2 1 v6 10 (ic cz) := by
            rw [show 0 + 10 = 10 by omega] at hown6
            show w6.ownsRow _ _ _ _ _ (cellsN (ic cz) (10 * 1))
            rw [Nat.mul_one]
            simpa [cellsN] using hown6
          have hB6 := kept_trans hbk K6
          have hwz := hbk.size
          clear OE HNW HN1 HLN hown6 hgrow6 KA1 K6 hbk
          rcases O6.split1 with ⟨rfl, h10⟩ | ⟨gl, capl, F, rfl, hgl, hcm, hnc, hrow, hF⟩
          · omega
          have hgl5 : w5.heap.size ≤ gl := by omega
          have HF : Hid (∀ j, j < 10 → F j = .int .i64 (cz j - (cntK ms (ps 0 0) j : Nat))) := fun j hj => by rw [hF j hj, hp0, HCN.out]; simp [ic]
          clear O6 hF hgl hwz hi hz0 hz1 hz2
          go_loopw [15, 17] (fun u i wr => ∃ k : Nat, k ≤ n ∧ u = .int .i64 (ps k 0 : Nat) ∧ i = .int .i64 k ∧ Below w5.heap.size w5 wr ∧ ∃ F, wr.rowIs gl 2 capl F ∧ Hid (∀ j, j < 10 → F j = .int .i64 (cz j - (cntK ms (ps k 0) j : Nat)))) (fun _ i _ => n - (intOf i).toNat)
          case atStart => exact ⟨0, by omega, by rw [hp0]; rfl, rfl, hB6, F, hrow, HF⟩
          case round =>
            clear hB6 hrow HF
            obtain ⟨k, hk, rfl, rfl, hbk, F, hrow, hF⟩ := hrel
            by_cases hlt : k < n
            · as_aux_lemma =>
              obtain ⟨ck, hck⟩ : ∃ c', nth L k = c' := ⟨_, rfl⟩
              have hc80 : ck < 80 := by rw [← hck]; exact HLO.out k hlt
              go_wp2
              go_loopw [15, 18] (fun u i wq => ∃ j : Nat, 1 ≤ j ∧ j ≤ 10 ∧ u = .int .i64 (ps k (j - 1) : Nat) ∧ i = .int .i64 j ∧ Below w5.heap.size w5 wq ∧ ∃ F, wq.rowIs gl 2 capl F ∧ Hid (∀ e, e < 10 → F e = .int .i64 (cz e - (cntK ms (ps k (j - 1)) e : Nat)))) (fun _ i _ => 10 - (intOf i).toNat)
              case atStart => exact ⟨1, by omega, by omega, rfl, rfl, hbk, F, hrow, hF⟩
              case round =>
                clear hbk hrow hF
                obtain ⟨j, hj1, hj, rfl, rfl, hbq, F, hrow, hF⟩ := hrel
                by_cases hjn : j < 10
                · as_aux_lemma =>
                  have hj9 : (j : Int) ≤ 9 := by omega
                  obtain ⟨s0, s1, s2, s3, s4⟩ := stcells (HL.out.kept hbq) hlt hck
                  simp only [Nat.zero_add] at s0 s1 s2 s3 s4
                  have hmw := HMW.out k (j - 1) hlt (by omega)
                  rw [Nat.sub_add_cancel hj1, hck] at hmw
                  obtain ⟨q, hq⟩ : ∃ q, ps k (j - 1) = q := ⟨_, rfl⟩
                  rw [hq] at hmw hF ⊢
                  cases ha : al ck j
                  · as_aux_lemma =>
                    have HX := Lib.hid (fun w => s_NextState_no ck j w hc80 ⟨hj1, by omega⟩ ha)
                    have HQ2 := Lib.hid (hmw.2 ha)
                    clear hmw hq ha
                    go_wp2_with (first | (go_at_call 58; refine (HX.out _).mono ?_; rintro e w7 ⟨rfl, hb7⟩))
                    go_roundw
                    case rel =>
                      have K7 := kept_alloc hb7 (.cells #[.int .i64 0, .bool false, .bool false, .bool false, .bool false] 53)
                      refine ⟨j + 1, by omega, by omega, ?_, by go_num, kept_trans hbq K7, F, hrow.of_block (K7.block _ hrow.lt), ?_⟩
                      · rw [Nat.add_sub_cancel, HQ2.out]
                      · intro e he; rw [Nat.add_sub_cancel, HQ2.out]; exact hF.out e he
                    case measure => simp [intOf]; omega
                  · as_aux_lemma =>
                    obtain ⟨t, h1, h2, h3, h4, h5⟩ := hmw.1 ha
                    obtain ⟨y, hy⟩ : ∃ y, nx ck j = y := ⟨_, rfl⟩
                    have HX := Lib.hid (fun w => s_NextState_yes ck j w hc80 ⟨hj1, by omega⟩ ha)
                    rw [hy] at HX h4
                    have H2 := Lib.hid h2
                    have H4 := Lib.hid h4
                    have H5 := Lib.hid h5
                    have hcl := HCL.out q j
                    have hcl2 := HCL.out nm j
                    have hd : ∃ d : Int, cz j - (cntK ms q j : Nat) = d ∧ -45 ≤ d ∧ d ≤ 45 := ⟨_, rfl, by rw [HCZ.out]; simp only; omega, by rw [HCZ.out]; simp only; omega⟩
                    obtain ⟨d, hd, hd1, hd2⟩ := hd
                    have HD := Lib.hid hd
                    clear hmw hq ha hy h2 h4 h5 hd hcl hcl2
                    go_wp2_with (first | (go_at_call 58; refine (HX.out _).mono ?_; rintro e w7 ⟨rfl, hb7⟩))
                    clear s0 s1 s2 s3 s4
                    have K7 := kept_alloc hb7 (.cells #[.int .i64 (cm y : Nat), .bool (co y), .bool (ca y), .bool (cb y), .bool (ce y)] 53)
                    have b0 : (w7.alloc (.cells #[.int .i64 (cm y : Nat), .bool (co y), .bool (ca y), .bool (cb y), .bool (ce y)] 53)).cell? ⟨w7.heap.size, 0, none⟩ = some (.int .i64 (cm y : Nat)) := boxed_at rfl rfl
                    have b1 : (w7.alloc (.cells #[.int .i64 (cm y : Nat), .bool (co y), .bool (ca y), .bool (cb y), .bool (ce y)] 53)).cell? ⟨w7.heap.size, 1, none⟩ = some (.bool (co y)) := boxed_at rfl rfl
                    have b2 : (w7.alloc (.cells #[.int .i64 (cm y : Nat), .bool (co y), .bool (ca y), .bool (cb y), .bool (ce y)] 53)).cell? ⟨w7.heap.size, 2, none⟩ = some (.bool (ca y)) := boxed_at rfl rfl
                    have b3 : (w7.alloc (.cells #[.int .i64 (cm y : Nat), .bool (co y), .bool (ca y), .bool (cb y), .bool (ce y)] 53)).cell? ⟨w7.heap.size, 3, none⟩ = some (.bool (cb y)) := boxed_at rfl rfl
                    have b4 : (w7.alloc (.cells #[.int .i64 (cm y : Nat), .bool (co y), .bool (ca y), .bool (cb y), .bool (ce y)] 53)).cell? ⟨w7.heap.size, 4, none⟩ = some (.bool (ce y)) := boxed_at rfl rfl
                    have hbA := kept_trans hbq K7
                    have hrowA := hrow.of_block (K7.block _ hrow.lt)
                    generalize w7.heap.size = by7 at *
                    generalize w7.alloc (.cells #[.int .i64 (cm y : Nat), .bool (co y), .bool (ca y), .bool (cb y), .bool (ce y)] 53) = wA at *
                    clear hb7 K7 hbq hrow
                    obtain ⟨m0, m1, m2⟩ := mvcells (HM.out.kept hbA) h1 H2.out
                    obtain ⟨t0, t1, t2, t3, t4⟩ := stcells (HL.out.kept hbA) h3 H4.out
                    simp only [Nat.zero_add] at m0 m1 m2 t0 t1 t2 t3 t4
                    have d1 : decide ((nm : Int) ≤ (q : Int)) = false := decide_eq_false (by omega)
                    have d2 : decide ((t : Int) < 0) = false := decide_eq_false (by omega)
                    have d3 : decide ((n : Int) ≤ (t : Int)) = false := decide_eq_false (by omega)
                    have d4 : (t : Int) < n := by omega
                    have d5 : (q : Int) < nm := by omega
                    have he := st_neq_same y
                    go_quiet (fail)
                    clear he m0 m1 m2 t0 t1 t2 t3 t4 b0 b1 b2 b3 b4 d1 d2 d3 d4 d5
                    have hbB := kept_drewN hbA nq
                    have hrowB : (wA.drewN nq).rowIs gl 2 capl F := hrowA
                    clear hbA hrowA
                    generalize wA.drewN nq = wB at *
                    have c0 := hrowB.cell (i := j) (by omega)
                    rw [hF.out j (by omega), HD.out] at c0
                    have f0 := hrowB.frozen j
                    have hj10 : (j : Int) < 10 := by omega
                    have RS := Lib.hid (left_set hrowB hF.out (by rw [H2.out]) HD.out)
                    have B1 := Lib.hid (kept_set hbB (p := ⟨gl, j, none⟩) hgl5 (.int .i64 (d - 1)))
                    clear hrowB hbB hF
                    go_wp2_with fail
                    go_roundw
                    case rel =>
                      obtain ⟨F', hr', hF'⟩ := RS.out
                      refine ⟨j + 1, by omega, by omega, ?_, by go_num, B1.out, F', hr', ?_⟩
                      · rw [Nat.add_sub_cancel, H5.out]; rfl
                      · intro e he; rw [Nat.add_sub_cancel, H5.out]; exact hF' e he
                    case measure => simp [intOf]; omega
                · as_aux_lemma =>
                  obtain rfl : j = 10 := by omega
                  have HP := Lib.hid (HP9.out k)
                  go_wp2
                  go_roundw
                  case rel => exact ⟨k + 1, by omega, by rw [HP.out], by go_num, hbq, F, hrow, by rw [HP.out]; exact hF⟩
                  case measure => simp [intOf]; omega
            · as_aux_lemma =>
              obtain rfl : n = k := by omega
              rw [hpe] at hF ⊢
              have HZ : Hid (∀ j, j < 10 → F j = .int .i64 0) := fun j hj => by rw [hF.out j hj, HCZ.out]; simp
              clear hF HMW HPL HCL HCN HP9 hp0 hpe
              go_wp2
              go_loopw [21] (fun i wq => ∃ e : Nat, 1 ≤ e ∧ e ≤ 10 ∧ i = .int .i64 e ∧ Below w5.heap.size w5 wq ∧ wq.rowIs gl 2 capl F) (fun i _ => 10 - (intOf i).toNat)
              case atStart => exact ⟨1, by omega, by omega, rfl, hbk, hrow⟩
              case round =>
                clear hbk hrow
                obtain ⟨e, he1, he2, rfl, hbq, hrow⟩ := hrel
                by_cases hlt : e < 10
                · as_aux_lemma =>
                  have c0 := hrow.cell (i := e) (by omega)
                  rw [HZ.out e hlt] at c0
                  have he9 : (e : Int) ≤ 9 := by omega
                  have he10 : (e : Int) < 10 := by omega
                  go_wp2
                  go_roundw
                  case rel => exact ⟨e + 1, by omega, by omega, by go_num, hbq, hrow⟩
                  case measure => simp [intOf]; omega
                · as_aux_lemma =>
                  clear hrow HZ
                  obtain ⟨-, q0, q1, q2, q3, q4, -⟩ := id (HST.out.kept hbq)
                  go_upto_region 39 with (go_at_call 59; refine (HFS.out _).mono ?_; rintro e' w8 ⟨⟨y, kk, rfl, hy80, hFU⟩, hb8⟩)
                  clear q0 q1 q2 q3 q4
                  have K8 := kept_alloc (kept_trans hbq hb8) (.cells #[.int .i64 (cm y : Nat), .bool (co y), .bool (ca y), .bool (cb y), .bool (ce y)] 53)
                  have rY := Box5.new w8 (.int .i64 (cm y : Nat)) (.bool (co y)) (.bool (ca y)) (.bool (cb y)) (.bool (ce y)) 53
                  generalize w8.heap.size = by8 at *
                  generalize w8.alloc (.cells #[.int .i64 (cm y : Nat), .bool (co y), .bool (ca y), .bool (cb y), .bool (ce y)] 53) = wA at *
                  clear hb8 hbq
                  go_cut [242] (fun p wx => p = .bool false ∧ Below w5.heap.size w5 wx)
                  case first =>
                    as_aux_lemma =>
                    obtain ⟨-, q0, q1, q2, q3, q4, -⟩ := id (HST.out.kept K8)
                    have HSY := Lib.hid (fun w => s_IsSafeState y w hy80)
                    rcases hFU with ⟨hAS, hkk⟩ | ⟨hAS, hkk, hsy⟩
                    · rw [hAS] at HAS
                      subst hAS hkk
                      go_wp2_with (first
                        | (go_at_call 55; refine (HAS.out _).mono ?_; rintro e' w15 ⟨rfl, hb15⟩; obtain ⟨-, y0, y1, y2, y3, y4, -⟩ := id (rY.kept hb15))
                        | (go_at_call 57; refine (HSY.out _).mono ?_; rintro e' w16 ⟨rfl, hb16⟩))
                      go_meet
                      exact ⟨rfl, kept_trans K8 hb15⟩
                    · rw [hAS] at HAS
                      rw [hsy] at HSY
                      subst hAS hkk
                      go_wp2_with (first
                        | (go_at_call 55; refine (HAS.out _).mono ?_; rintro e' w15 ⟨rfl, hb15⟩; obtain ⟨-, y0, y1, y2, y3, y4, -⟩ := id (rY.kept hb15))
                        | (go_at_call 57; refine (HSY.out _).mono ?_; rintro e' w16 ⟨rfl, hb16⟩))
                      go_meet
                      exact ⟨rfl, kept_trans (kept_trans K8 hb15) hb16⟩
                  case rest =>
                    as_aux_lemma =>
                    obtain ⟨rfl, hbc⟩ := hcut
                    clear hFU HFS HAS K8 rY hy80
                    go_upto_region 42 with (go_at_call 60; refine (HA.out _ _ _ (kept_trans hB5 hbc) (by omega) (by omega)).mono ?_; rintro e' w9 ⟨u, rfl, hu, hb9⟩; obtain ⟨k, rfl, hk⟩ : ∃ k : Nat, u = k ∧ k < n := ⟨u.toNat, by omega, by omega⟩; obtain ⟨s0, s1, s2, s3, s4⟩ := stcells (HL.out.kept (kept_trans hbc hb9)) hk rfl; simp only [Nat.zero_add] at s0 s1 s2 s3 s4)
                    clear s0 s1 s2 s3 s4 hu
                    obtain ⟨y, hy⟩ : ∃ y, nth L k = y := ⟨_, rfl⟩
                    have hWY := fun w => HWY.out k w hk
                    rw [hy] at hWY ⊢
                    have K9 := kept_alloc (kept_trans hbc hb9) (.cells #[.int .i64 (cm y : Nat), .bool (co y), .bool (ca y), .bool (cb y), .bool (ce y)] 53)
                    have rY := Box5.new w9 (.int .i64 (cm y : Nat)) (.bool (co y)) (.bool (ca y)) (.bool (cb y)) (.bool (ce y)) 53
                    generalize w9.heap.size = by9 at *
                    generalize w9.alloc (.cells #[.int .i64 (cm y : Nat), .bool (co y), .bool (ca y), .bool (cb y), .bool (ce y)] 53) = wA at *
                    clear hb9 hbc hy
                    obtain ⟨E, hE1, hE2, hEc⟩ := hWY wA
                    clear hWY HWY
                    obtain ⟨nE, hnE⟩ : ∃ m, E.length = m := ⟨_, rfl⟩
                    rw [hnE] at hE1 hEc
                    obtain ⟨-, q0, q1, q2, q3, q4, -⟩ := id (HST.out.kept K9)
                    obtain ⟨-, y0, y1, y2, y3, y4, -⟩ := id rY
                    go_upto_region 43 with (go_at_call 50; refine hEc.mono ?_; rintro e' w10 ⟨vw, rfl, hb10, how⟩)
                    clear q0 q1 q2 q3 q4 y0 y1 y2 y3 y4 hEc
                    have K10 := kept_trans K9 hb10
                    have rY10 := rY.kept hb10
                    obtain ⟨-, aow, capw, rfl, hrw⟩ := how.sl (by omega)
                    clear K9 hb10 rY how
                    have HST10 := HST.out.kept K10
                    obtain ⟨-, q0, q1, q2, q3, q4, -⟩ := id HST10
                    have hEn : (nE : Int) < n := by omega
                    have hEd : decide (n ≤ nE) = false := decide_eq_false (by omega)
                    have hEe : decide ((n : Int) ≤ nE) = false := decide_eq_false (by omega)
                    go_wp2
                    try rw [hEd]
                    clear q0 q1 q2 q3 q4 hEd hEe
                    have rN := Box5.new w10 (.int .i64 (cm c : Nat)) (.bool (co c)) (.bool (ca c)) (.bool (cb c)) (.bool (ce c)) 53
                    have KN := kept_alloc (Below.refl w10.heap.size w10) (.cells #[.int .i64 (cm c : Nat), .bool (co c), .bool (ca c), .bool (cb c), .bool (ce c)] 53)
                    obtain ⟨bn, hbn⟩ : ∃ b, w10.heap.size = b := ⟨_, rfl⟩
                    rw [hbn] at rN KN ⊢
                    have hyn : by9 < bn := by rw [← hbn]; exact rY10.1
                    have hxn : w1.heap.size < bn := by rw [← hbn]; exact HST10.1
                    have HN := Lib.hid hnE
                    clear hnE
                    go_loopw [28] (fun i wq => ∃ (j d : Nat), j ≤ nE ∧ d < 80 ∧ i = .int .i64 j ∧ Below bn w10 wq ∧ StAt wq bn d ∧ Hid (wk d (E.drop j) y = true)) (fun i _ => nE - (intOf i).toNat)
                    case atStart => exact ⟨0, c, by omega, hc, rfl, KN, rN, hE2⟩
                    case round =>
                      clear rN KN hE2
                      obtain ⟨j, d, hj, hd, rfl, hbq, hSt, hwk⟩ := hrel
                      rw [← hbn] at hbq
                      by_cases hlt : j < nE
                      · as_aux_lemma =>
                        have hwk2 := hwk.out
                        rw [drop_nth (by rw [HN.out]; exact hlt)] at hwk2
                        obtain ⟨ev, hev⟩ : ∃ ev, nth E j = ev := ⟨_, rfl⟩
                        rw [hev] at hwk2
                        obtain ⟨hev1, hev2, hwk3⟩ := wk_cons hwk2
                        have HX := Lib.hid (fun w => s_NextState_yes d ev w hd hev1 hev2)
                        have hz80 := nx_lt (k := ev) hd (by omega)
                        have HWK := Lib.hid hwk3
                        rcases hrw with h0 | ⟨gw, off, rfl, hr⟩
                        · omega
                        have a0 := (hr.kept hbq).cell (i := j) (by omega)
                        unfold nc at a0
                        rw [hev] at a0
                        generalize nx d ev = z at *
                        clear hwk hwk2 hwk3 hev hev2
                        have hbw : bn < wr.heap.size := hSt.1
                        obtain ⟨-, q0, q1, q2, q3, q4, -⟩ := id hSt
                        have hjn : (j : Int) < nE := by omega
                        have HK : Hid (∀ w', Below wr.heap.size wr w' → w'.cell? ⟨bn, 0, none⟩ = some (.int .i64 (cm d : Nat)) ∧ w'.cell? ⟨bn, 1, none⟩ = some (.bool (co d)) ∧ w'.cell? ⟨bn, 2, none⟩ = some (.bool (ca d)) ∧ w'.cell? ⟨bn, 3, none⟩ = some (.bool (cb d)) ∧ w'.cell? ⟨bn, 4, none⟩ = some (.bool (ce d)) ∧ w'.cell? ⟨gw, off + j, none⟩ = some (.int .i64 (ev : Nat))) := fun w' h => ⟨cell_keep h q0, cell_keep h q1, cell_keep h q2, cell_keep h q3, cell_keep h q4, cell_keep h a0⟩
                        clear K10 HST10 rY10
                        go_upto_region 49 with (fail)
                        go_cut [29, 30] from 266 to 283 (fun p q wx => ∃ b9 : Nat, p = .pointer (some ⟨b9, 0, none⟩) ∧ q = .int .i64 0 ∧ Below wr.heap.size wr wx ∧ StAt wx b9 z)
                        case first =>
                          as_aux_lemma =>
                          go_region_held3 (fun w' => w'.cell? ⟨bn, 0, none⟩ = some (.int .i64 (cm d : Nat)) ∧ w'.cell? ⟨bn, 1, none⟩ = some (.bool (co d)) ∧ w'.cell? ⟨bn, 2, none⟩ = some (.bool (ca d)) ∧ w'.cell? ⟨bn, 3, none⟩ = some (.bool (cb d)) ∧ w'.cell? ⟨bn, 4, none⟩ = some (.bool (ce d)) ∧ w'.cell? ⟨gw, off + j, none⟩ = some (.int .i64 (ev : Nat))) (exact HK.out _ (by repeat (first | assumption | exact Below.refl _ _ | refine kept_drew ?_ | refine kept_alloc ?_ _ | refine kept_set ?_ (Nat.le_refl _) _ | refine kept_trans ?_ (by assumption)))) (first
                            | (go_at_call 58; refine (HX.out _).mono ?_; rintro e' w12 ⟨rfl, hb12⟩; have hW : Below wr.heap.size wr w12 := (by first | exact hb12 | exact kept_trans (kept_drew (Below.refl _ _)) hb12 | exact kept_trans (kept_drew (kept_alloc (Below.refl _ _) _)) hb12 | exact kept_trans (kept_alloc (Below.refl _ _) _) hb12 | exact kept_trans (kept_alloc (kept_drew (Below.refl _ _)) _) hb12); try (have rT := (((Box5.new wr (.int .i64 0) (.bool false) (.bool false) (.bool false) (.bool false) 53).kept (kept_drew (Below.refl _ _))).kept hb12)); try (obtain ⟨-, t0, t1, t2, t3, t4, tf⟩ := id rT; have tf0 := tf 0; have tf1 := tf 1; have tf2 := tf 2; have tf3 := tf 3; have tf4 := tf 4)))
                          all_goals
                            go_wp2_with fail
                            go_meet
                            first
                              | (have hT := rT; clear hT; exact ⟨_, rfl, rfl, kept_put hW (Nat.le_refl _) _ _ _ _ _, Box5.put rT _ _ _ _ _⟩)
                              | exact ⟨_, rfl, rfl, kept_alloc hW _, Box5.new w12 _ _ _ _ _ _⟩
                        case rest =>
                          as_aux_lemma =>
                          obtain ⟨b9, rfl, rfl, hbc, rZ⟩ := hcut
                          have rS := Box5.kept hSt hbc
                          have hbD := kept_trans hbq hbc
                          clear q0 q1 q2 q3 q4 a0 hbq HK
                          obtain ⟨-, t0, t1, t2, t3, t4, -⟩ := id rZ
                          obtain ⟨-, p0, p1, p2, p3, p4, pf⟩ := id rS
                          have f0 := pf 0
                          have f1 := pf 1
                          have f2 := pf 2
                          have f3 := pf 3
                          have f4 := pf 4
                          have hbl : w10.heap.size ≤ bn := by omega
                          go_wp2
                          go_roundw
                          case rel => exact ⟨j + 1, z, by omega, hz80, by go_num, by rw [← hbn]; exact kept_put hbD (by omega) _ _ _ _ _, Box5.put rS _ _ _ _ _, HWK⟩
                          case measure => simp [intOf]; omega
                      · as_aux_lemma =>
                        have hje : j = nE := by omega
                        have hdy : d = y := by
                          have h := hwk.out
                          rw [hje, ← HN.out, List.drop_length] at h
                          exact wk_nil h
                        subst hdy
                        have K12 := kept_trans K10 hbq
                        obtain ⟨-, q0, q1, q2, q3, q4, -⟩ := id (HST.out.kept K12)
                        go_upto_region 54 with (go_at_call 48; refine (HFW.out _).mono ?_; rintro e' w13 ⟨rfl, hb13⟩)
                        clear q0 q1 q2 q3 q4
                        obtain ⟨-, q0, q1, q2, q3, q4, -⟩ := id (HST.out.kept (kept_trans K12 hb13))
                        go_upto_region 55 with (go_at_call 52; refine (HDD.out _).mono ?_; rintro e' w14 ⟨vd, rfl, hb14, hod⟩; obtain ⟨-, aod, capd, rfl, -⟩ := hod.sl (by omega))
                        clear q0 q1 q2 q3 q4
                        have K14 := kept_trans (kept_trans K12 hb13) hb14
                        obtain ⟨-, q0, q1, q2, q3, q4, -⟩ := id (HST.out.kept K14)
                        obtain ⟨-, y0, y1, y2, y3, y4, -⟩ := id (((rY10.kept hbq).kept hb13).kept hb14)
                        obtain ⟨-, p0, p1, p2, p3, p4, -⟩ := id ((Box5.kept hSt hb13).kept hb14)
                        have he := st_neq_same d
                        go_quiet (fail)
                        clear he
                        have hf3 : (1 : Int) ≤ FF := by omega
                        have hf4 : (FF : Int) ≤ n := by omega
                        go_wp2_with fail
                        go_ret
                        exact ⟨by first | rfl | (simp [*]; done) | (simp [*]; omega), kept_trans hB5 (kept_drewN K14 _)⟩
  · have HLY : Hid (Calls Try.prog 53 #[va, vb] W fun e W' => e = .returned (.bool true) ∧ W = W') := by
      have := l_r8Long va vb na nb W ha hb
      rw [decide_eq_false hl] at this
      exact this
    obtain ⟨-, aoa, capa, rfl, -⟩ := ha
    obtain ⟨-, aob, capb, rfl, -⟩ := hb
    clear hl
    go_enter Try.func12, Try.ntmps12
    go_wp2_with (go_at_call 53; refine HLY.out.mono ?_; rintro e w0 ⟨rfl, rfl⟩)
    go_ret
    exact ⟨rfl, Below.refl _ _⟩

end Go.Proofs.Ytkloolhngddpiaa
