/- How far: the reference's walk. -/
import Derived.Test.YtkloolhngddpiaaFar
import Derived.StillTailTactics
import Derived.IntWalk
namespace Go.Proofs.Ytkloolhngddpiaa
open Go.RowKit Go.Deep
set_option linter.unusedVariables false
set_option maxRecDepth 100000

theorem region_tail_at {P : Program} {id : Nat} {Q : Exit → Act → World → Prop} {a : Act} {w : World} {l : List Oper} (n : Nat) (hm : P.follows .mixedOrders = true) (hB : Region.lexTailB .any l.toArray n = true) (w2 : World) (hw : w.drew = w2)
    (h : wpStill P l.toArray w2 (fun a' => wpList P l.toArray Q (l.drop n) a' w2) (l.take n) a) : (Code.region id l.toArray true).wp P Q a w := by
  subst hw
  exact wp_region_still_tail n hm hB h

def FarPost (n : Nat) (l : List Nat) (W : World) (en : Ending) (W' : World) : Prop := ∃ v1, en = .returned v1 ∧ Below W.heap.size W W' ∧ Out W' W.heap.size 2 1 v1 n (fc l)

set_option maxHeartbeats 3200000 in
theorem s_l15Far (n nm ng : Nat) (ms : List (Nat × Nat × Nat)) (gs : List Nat) (v vg : Value) (W : World) (hs : Sl W v 3 nm (mvc ms)) (hg : Sl W vg 1 ng (nc gs))
    (hn : 1 ≤ n ∧ n ≤ 20) (hnm : nm ≤ 45) (hng : ng ≤ 50) (HM : Hid (ms.length = nm)) (HG : Hid (gs.length = ng)) (HMI : Hid (∀ i, i < nm → (nthM ms i).1 < n ∧ (nthM ms i).2.2 < n)) (HGI : Hid (∀ i, i < ng → nth gs i < n)) :
    Calls Try.prog 93 #[.int .i64 (n : Nat), v, vg] W (FarPost n (far n ms gs) W) := by
  obtain ⟨hn1, hn20⟩ := hn
  obtain ⟨i0, hi, hz0, hz1, hz2⟩ := info_parts infoInt
  obtain ⟨-, ao, cap, rfl, hr⟩ := hs
  obtain ⟨-, aog, capg, rfl, hrg⟩ := hg
  have HE : Hid (relN ms (gK gs n ng) n = far n ms gs) := by rw [← HG.out, gK_end]; rfl
  unfold FarPost
  generalize far n ms gs = FF at *
  have O1 : Hid (Out (W.alloc (.cells #[] 2)) W.heap.size 2 1 (.slice (some ⟨W.heap.size, 0, none⟩) 0 0) 0 (fun _ => .int .i64 (-1))) := Out.empty _ _ _ _ _ (Nat.le_refl _)
  have KB2 := kept_alloc (Below.refl W.heap.size W) (.cells #[] 2)
  have HR := Lib.hid hr
  have HRG := Lib.hid hrg
  clear hr hrg
  go_enter Try.func93, Try.ntmps93
  go_wp2
  go_loopw [7, 8] (fun u i wr => ∃ (k : Nat) (x : Value), k ≤ n ∧ i = .int .i64 k ∧ x = u ∧ Below W.heap.size W wr ∧ Out wr W.heap.size 2 1 x k (fun _ => .int .i64 (-1))) (fun _ i _ => n - (intOf i).toNat)
  case atStart => exact ⟨0, _, by omega, rfl, rfl, KB2, O1.out⟩
  case round =>
    clear KB2 O1
    obtain ⟨k, x, hk, rfl, rfl, hb, hown⟩ := hrel
    by_cases hlt : k < n
    · go_wp2_with (at_builtin; refine wpList_append_own _ rfl _ _ 35 rfl _ 2 i0 _ 1 8 Try.underlying35 hi hz0 hz1 hz2 rfl (by decide) _ _ _ rfl ((hown).row.alloc _) ⟨wr.heap.size, 0, none⟩ 1 1 _ (by rfl) (by rfl) (laid_at (by simp)) (by intro u hu; simp at hu; first | (rcases hu with rfl | rfl <;> rfl) | (subst hu; rfl)) (by simp only [maxLen]; omega) (by omega) (by have hbs := hb.size; simp at hbs ⊢; omega) ?_; intro v1 w1 hown1 hgrow1 _)
      have R1 := Out.snoc1 hown1 rfl
      have R2 := below_append hb (Nat.le_refl _) hown.row hgrow1
      clear hown hown1 hgrow1 hb
      try go_wp2
      go_roundw
      case rel => exact ⟨k + 1, _, by omega, by go_num, rfl, R2, R1⟩
      case measure => simp [intOf]; omega
    · obtain rfl : k = n := by omega
      obtain ⟨g, gcap, rfl, hgW, -⟩ := hown.opened (by omega)
      have hf0 := FarRow.of_out (l := List.replicate k 0) (hown.congr (fun i hi => by unfold fc; simp [nth_rep])) (by simp)
      obtain ⟨hf0, -, hcap⟩ := hf0
      have HB0 : Hid (∀ i, nth (gK gs k 0) i ≤ 1) := fun i => by show nth (List.replicate k 0) i ≤ 1; rw [nth_rep]; omega
      clear hown
      go_wp2
      go_loopw [9] (fun i wr => ∃ (j : Nat) (l : List Nat), j ≤ ng ∧ i = .int .i64 j ∧ Hid (gK gs k j = l) ∧ Hid (∀ i, nth l i ≤ 1) ∧ Below W.heap.size W wr ∧ FarRow wr g gcap k l) (fun i _ => ng - (intOf i).toNat)
      case atStart => exact ⟨0, _, by omega, rfl, rfl, HB0, hb, hf0⟩
      case round =>
        clear hf0 hb HB0
        obtain ⟨j, l, hj, rfl, hl, hbd, hb, hf⟩ := hrel
        by_cases hjn : j < ng
        · have HRG2 := HRG.out
          rcases HRG2 with h0 | ⟨gg, offg, rfl, hrg⟩
          · omega
          obtain ⟨a, ha⟩ : ∃ a, nth gs j = a := ⟨_, rfl⟩
          have hak := HGI.out j hjn
          rw [ha] at hak
          have s0 := (hrg.kept hb).cell (i := j) (by omega)
          simp only [nc, ha] at s0
          have c0 := hf.cell (a := nth l a) hak rfl
          have f0 := hf.frozen a
          have R1 := Lib.hid (hf.set hak 1)
          have R2 := Lib.hid (kept_set hb (p := ⟨g, a, none⟩) hgW (.int .i64 (((1 : Nat) : Int) - 1)))
          have R3 := Lib.hid (show gK gs k (j + 1) = setN l a 1 by show setN (gK gs k j) (nth gs j) 1 = _; rw [hl.out, ha])
          have R4 : Hid (∀ i, nth (setN l a 1) i ≤ 1) := fun i => by
            rw [nth_setN (by rw [← hl.out, gK_len]; exact hak)]
            split
            · omega
            · exact hbd.out i
          have ha1 : (a : Int) < k := by omega
          have ha0 : (0 : Int) ≤ a := by omega
          clear hrg hf hb ha hl hbd
          go_wp2
          go_roundw
          case rel => exact ⟨j + 1, _, by omega, by go_num, R3, R4, R2.out, R1.out⟩
          case measure => simp [intOf]; omega
        · obtain rfl : j = ng := by omega
          have HBD : Hid (∀ i, nth (relN ms (gK gs k j) 0) i ≤ 1) := fun i => by show nth (gK gs k j) i ≤ 1; rw [hl.out]; exact hbd.out i
          have hf0 : FarRow wr g gcap k (relN ms (gK gs k j) 0) := by show FarRow wr g gcap k (gK gs k j); rw [hl.out]; exact hf
          obtain ⟨l0, hl0⟩ : ∃ l0, relN ms (gK gs k j) 0 = l0 := ⟨_, rfl⟩
          have HL0 := Lib.hid hl0
          rw [hl0] at HBD hf0
          clear hl0 hf
          go_wp2
          go_loopw [10] (fun i wr => ∃ (r b : Nat) (l : List Nat), r ≤ k ∧ b ≤ 1 + 45 * r ∧ i = .int .i64 r ∧ Hid (relN ms (gK gs k j) r = l) ∧ Hid (∀ i, nth l i ≤ b) ∧ Below W.heap.size W wr ∧ FarRow wr g gcap k l) (fun i _ => k - (intOf i).toNat)
          case atStart => exact ⟨0, 1, l0, by omega, by omega, rfl, HL0, HBD, hb, hf0⟩
          case round =>
            clear hf0 hb HBD HL0 hl hbd
            obtain ⟨r, b, l, hr, hbr, rfl, hl, hbd, hb, hf⟩ := hrel
            by_cases hrk : r < k
            · have HS := Lib.hid (rK_end ms (gK gs k j) r)
              go_wp2
              go_loopw [11] (fun i wr => ∃ (q b : Nat) (l : List Nat), q ≤ nm ∧ b ≤ 1 + 45 * r + q ∧ i = .int .i64 q ∧ Hid (rK ms (relN ms (gK gs k j) r) q = l) ∧ Hid (∀ i, nth l i ≤ b) ∧ Below W.heap.size W wr ∧ FarRow wr g gcap k l) (fun i _ => nm - (intOf i).toNat)
              case atStart => exact ⟨0, b, l, by omega, by omega, rfl, hl, hbd, hb, hf⟩
              case round =>
                clear hb hf hl hbd hbr
                obtain ⟨q, b, l, hq, hbr, rfl, hl, hbd, hb, hf⟩ := hrel
                by_cases hqn : q < nm
                · have HR2 := HR.out
                  rcases HR2 with h0 | ⟨gm, offm, rfl, hrm⟩
                  · omega
                  obtain ⟨f, e, t, hm⟩ : ∃ f e t, nthM ms q = (f, e, t) := ⟨_, _, _, rfl⟩
                  obtain ⟨hfk, htk⟩ := HMI.out q hqn
                  rw [hm] at hfk htk
                  simp only at hfk htk
                  obtain ⟨s0, s1, s2⟩ := mvcells (hrm.kept hb) hqn hm
                  have hnx : rK ms (relN ms (gK gs k j) r) (q + 1) = rel1 l (f, e, t) := by show rel1 (rK ms (relN ms (gK gs k j) r) q) (nthM ms q) = _; rw [hl.out, hm]
                  obtain ⟨a, ha⟩ : ∃ a, nth l t = a := ⟨_, rfl⟩
                  obtain ⟨c, hc⟩ : ∃ c, nth l f = c := ⟨_, rfl⟩
                  have hab : a ≤ b := by rw [← ha]; exact hbd.out t
                  have hcb : c ≤ b := by rw [← hc]; exact hbd.out f
                  have KA := kept_alloc (Below.refl wr.heap.size wr) (.cells #[.int .i64 (f : Nat), .int .i64 (e : Nat), .int .i64 (t : Nat)] 77)
                  have hfA := hf.kept KA
                  have cA := hfA.cell htk ha
                  have cF := hfA.cell hfk hc
                  have fF := hfA.frozen f
                  have ht1 : (t : Int) < k := by omega
                  have ht0 : (0 : Int) ≤ t := by omega
                  have hf1 : (f : Int) < k := by omega
                  have hf00 : (0 : Int) ≤ f := by omega
                  obtain ⟨A, hA⟩ : ∃ A : Int, (a : Int) - 1 = A := ⟨_, rfl⟩
                  obtain ⟨C, hC⟩ : ∃ C : Int, (c : Int) - 1 = C := ⟨_, rfl⟩
                  rw [hA] at cA
                  rw [hC] at cF
                  have HA := Lib.hid hA
                  have e1 : IntKind.i64.wrap (A + 1) = A + 1 := IntWalk.i64_in _ (by omega)
                  by_cases h1 : 0 ≤ A
                  · have d1 : decide (0 ≤ A) = true := by simpa using h1
                    have HNY := Lib.hid (fun h2 => show rK ms (relN ms (gK gs k j) r) (q + 1) = setN l f (a + 1) by rw [hnx, rel1_yes (l := l) (f := f) (e := e) (t := t) (by omega) h2, ha])
                    have HNN := Lib.hid (fun h2 => show rK ms (relN ms (gK gs k j) r) (q + 1) = l by rw [hnx, rel1_no (l := l) (f := f) (e := e) (t := t) h2])
                    clear hnx hm
                    by_cases h2 : C < 0
                    · have d2 : decide (C < 0) = true := by simpa using h2
                      have HN := Lib.hid (HNY.out (.inl (by omega)))
                      clear hA hC ha hc HNY HNN
                      go_wp2_with fail
                      go_quiet (fail)
                      clear d1 d2
                      go_wp2_with fail
                      have K6 : Below (wr.alloc (.cells #[.int .i64 (f : Nat), .int .i64 (e : Nat), .int .i64 (t : Nat)] 77)).heap.size (wr.alloc (.cells #[.int .i64 (f : Nat), .int .i64 (e : Nat), .int .i64 (t : Nat)] 77)) ((wr.alloc (.cells #[.int .i64 (f : Nat), .int .i64 (e : Nat), .int .i64 (t : Nat)] 77)).drewN nq).drew := kept_drew (kept_drewN (Below.refl _ _) _)
                      obtain ⟨w6, hw6⟩ : ∃ w6, ((wr.alloc (.cells #[.int .i64 (f : Nat), .int .i64 (e : Nat), .int .i64 (t : Nat)] 77)).drewN nq).drew = w6 := ⟨_, rfl⟩
                      rw [hw6] at K6
                      have HW6 := Lib.hid hw6
                      have b0 : w6.cell? ⟨wr.heap.size, 0, none⟩ = some (.int .i64 (f : Nat)) := cell_keep K6 (boxed_at rfl rfl)
                      have b1 : w6.cell? ⟨wr.heap.size, 1, none⟩ = some (.int .i64 (e : Nat)) := cell_keep K6 (boxed_at rfl rfl)
                      have b2 : w6.cell? ⟨wr.heap.size, 2, none⟩ = some (.int .i64 (t : Nat)) := cell_keep K6 (boxed_at rfl rfl)
                      have hf6 := hfA.kept K6
                      have cA6 := cell_keep K6 cA
                      have cF6 := cell_keep K6 cF
                      have fF6 := hf6.frozen f
                      have RS := Lib.hid (hf6.set hfk (a + 1))
                      have RB := Lib.hid (kept_set (kept_trans (kept_trans hb KA) K6) (p := ⟨g, f, none⟩) hgW (.int .i64 (((a + 1 : Nat) : Int) - 1)))
                      have HV : Hid ((((a + 1 : Nat) : Int) - 1) = A + 1) := by have := HA.out; show _ = _; omega
                      rw [HV.out] at RS RB
                      have RN : Hid (∀ i, nth (setN l f (a + 1)) i ≤ b + 1) := fun i => by
                        by_cases hi : i = f
                        · rw [nth_setN (by rw [hf6.choose_spec.2.2.2]; exact hfk), if_pos hi]; omega
                        · rw [nth_setN (by rw [hf6.choose_spec.2.2.2]; exact hfk), if_neg hi]; have := hbd.out i; omega
                      clear hw6 K6 hf6 hfA hf hb KA cA cF fF hbd HV
                      refine region_tail_at 10 (by kernel_rfl) (by kernel_rfl) w6 HW6.out ?_
                      simp only [List.take_succ_cons, List.take_zero, List.drop_succ_cons, List.drop_zero]
                      repeat still_step
                      refine wpStill_nil ?_
                      clear e1
                      go_wp2_with fail
                      go_roundw
                      case rel => exact ⟨q + 1, b + 1, _, by omega, by omega, by go_num, HN, RN, RB.out, RS.out⟩
                      case measure => simp [intOf]; omega
                    · have d2 : decide (C < 0) = false := by simpa using h2
                      by_cases h3 : A + 1 < C
                      · have d3 : decide (A + 1 < C) = true := by simpa using h3
                        have HN := Lib.hid (HNY.out (.inr (by omega)))
                        clear hA hC ha hc HNY HNN
                        go_wp2_with fail
                        go_quiet (fail)
                        clear d1 d2 d3
                        go_wp2_with fail
                        have K6 : Below (wr.alloc (.cells #[.int .i64 (f : Nat), .int .i64 (e : Nat), .int .i64 (t : Nat)] 77)).heap.size (wr.alloc (.cells #[.int .i64 (f : Nat), .int .i64 (e : Nat), .int .i64 (t : Nat)] 77)) ((wr.alloc (.cells #[.int .i64 (f : Nat), .int .i64 (e : Nat), .int .i64 (t : Nat)] 77)).drewN nq).drew := kept_drew (kept_drewN (Below.refl _ _) _)
                        obtain ⟨w6, hw6⟩ : ∃ w6, ((wr.alloc (.cells #[.int .i64 (f : Nat), .int .i64 (e : Nat), .int .i64 (t : Nat)] 77)).drewN nq).drew = w6 := ⟨_, rfl⟩
                        rw [hw6] at K6
                        have HW6 := Lib.hid hw6
                        have b0 : w6.cell? ⟨wr.heap.size, 0, none⟩ = some (.int .i64 (f : Nat)) := cell_keep K6 (boxed_at rfl rfl)
                        have b1 : w6.cell? ⟨wr.heap.size, 1, none⟩ = some (.int .i64 (e : Nat)) := cell_keep K6 (boxed_at rfl rfl)
                        have b2 : w6.cell? ⟨wr.heap.size, 2, none⟩ = some (.int .i64 (t : Nat)) := cell_keep K6 (boxed_at rfl rfl)
                        have hf6 := hfA.kept K6
                        have cA6 := cell_keep K6 cA
                        have cF6 := cell_keep K6 cF
                        have fF6 := hf6.frozen f
                        have RS := Lib.hid (hf6.set hfk (a + 1))
                        have RB := Lib.hid (kept_set (kept_trans (kept_trans hb KA) K6) (p := ⟨g, f, none⟩) hgW (.int .i64 (((a + 1 : Nat) : Int) - 1)))
                        have HV : Hid ((((a + 1 : Nat) : Int) - 1) = A + 1) := by have := HA.out; show _ = _; omega
                        rw [HV.out] at RS RB
                        have RN : Hid (∀ i, nth (setN l f (a + 1)) i ≤ b + 1) := fun i => by
                          by_cases hi : i = f
                          · rw [nth_setN (by rw [hf6.choose_spec.2.2.2]; exact hfk), if_pos hi]; omega
                          · rw [nth_setN (by rw [hf6.choose_spec.2.2.2]; exact hfk), if_neg hi]; have := hbd.out i; omega
                        clear hw6 K6 hf6 hfA hf hb KA cA cF fF hbd HV
                        refine region_tail_at 10 (by kernel_rfl) (by kernel_rfl) w6 HW6.out ?_
                        simp only [List.take_succ_cons, List.take_zero, List.drop_succ_cons, List.drop_zero]
                        repeat still_step
                        refine wpStill_nil ?_
                        clear e1
                        go_wp2_with fail
                        go_roundw
                        case rel => exact ⟨q + 1, b + 1, _, by omega, by omega, by go_num, HN, RN, RB.out, RS.out⟩
                        case measure => simp [intOf]; omega
                      · have d3 : decide (A + 1 < C) = false := by simp; omega
                        have HN := Lib.hid (HNN.out (.inr (by omega)))
                        clear hA hC ha hc HNY HNN
                        go_wp2_with fail
                        go_quiet (fail)
                        clear e1 d1 d2 d3
                        go_wp2_with fail
                        go_roundw
                        case rel => exact ⟨q + 1, b, l, by omega, by omega, by go_num, HN, hbd, kept_drewN (kept_trans hb KA) _, hfA.kept (kept_drewN (Below.refl _ _) _)⟩
                        case measure => simp [intOf]; omega
                  · have d1 : decide (0 ≤ A) = false := by simpa using h1
                    have HN := Lib.hid (show rK ms (relN ms (gK gs k j) r) (q + 1) = l by rw [hnx, rel1_no (.inl (by omega))])
                    clear hnx hm hA hC ha hc
                    go_wp2_with fail
                    go_quiet (fail)
                    clear e1 d1
                    go_wp2_with fail
                    go_roundw
                    case rel => exact ⟨q + 1, b, l, by omega, by omega, by go_num, HN, hbd, kept_drewN (kept_trans hb KA) _, hfA.kept (kept_drewN (Below.refl _ _) _)⟩
                    case measure => simp [intOf]; omega
                · obtain rfl : q = nm := by omega
                  have HEND := Lib.hid (show relN ms (gK gs k j) (r + 1) = l by rw [← HS.out, HM.out]; exact hl.out)
                  go_wp2
                  go_roundw
                  case rel => exact ⟨r + 1, b, l, by omega, by omega, by go_num, HEND, hbd, hb, hf⟩
                  case measure => simp [intOf]; omega
            · obtain rfl : r = k := by omega
              have hl2 := HE.out
              rw [hl.out] at hl2
              have R1 : Hid (Out wr W.heap.size 2 1 (.slice (some ⟨g, 0, none⟩) r gcap) r (fc FF)) := by rw [← hl2]; exact hf.out hgW hcap
              clear hl2 hf
              go_wp2
              go_ret
              exact ⟨_, rfl, hb, R1.out⟩

end Go.Proofs.Ytkloolhngddpiaa
