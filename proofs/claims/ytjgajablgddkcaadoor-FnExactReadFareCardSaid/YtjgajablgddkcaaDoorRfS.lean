/- A fare read off its text: the specification's walk, and the law. -/
import Derived.Test.YtjgajablgddkcaaDoorRfW
namespace Go.Proofs.YtjgajablgddkcaaDoor
open Go.RowKit Go.Deep
set_option linter.unusedVariables false
set_option maxRecDepth 100000

theorem split_two {s : ByteArray} (W : World) (hs : s.size ≤ 1048576) (h : (spl 32 [] s.data.toList).length = 2) : Calls Tryd.prog 28 #[.string s, .int .u8 32] W fun e W' => ∃ g cap, e = .returned (.slice (some ⟨g, 0, none⟩) 2 cap) ∧ Below W.heap.size W W' ∧ g < W'.heap.size ∧ W'.cell? ⟨g, 0, none⟩ = some (.string (nmA s)) ∧ W'.cell? ⟨g, 1, none⟩ = some (.string (nmB s)) := by
  obtain ⟨x, y, e⟩ := two_form h
  obtain ⟨e1, e2⟩ := nm_two e
  have es : splB 32 s = [nmA s, nmB s] := by rw [e1, e2]; unfold splB; rw [e]; rfl
  have HS := s_l01Split s 32 32 rfl W hs
  rw [es] at HS
  refine HS.mono ?_
  rintro e w ⟨g, rfl, hb1, ho⟩
  obtain ⟨g, cap, rfl, -, hr⟩ := ho.opened (by simp)
  have c0 := hr.cell (i := 0) (by simp)
  have c1 := hr.cell (i := 1) (by simp)
  rw [ts_two0] at c0
  rw [ts_two1] at c1
  exact ⟨g, cap, rfl, hb1, hr.1, c0, c1⟩
theorem split_not {s : ByteArray} (W : World) (hs : s.size ≤ 1048576) (h : ¬ (spl 32 [] s.data.toList).length = 2) : Calls Tryd.prog 28 #[.string s, .int .u8 32] W fun e W' => ∃ (ao : Option Addr) (n cap : Nat), e = .returned (.slice ao n cap) ∧ ((n : Int) == 2) = false ∧ Below W.heap.size W W' := by
  refine (s_l01Split s 32 32 rfl W hs).mono ?_
  rintro e w ⟨g, rfl, hb1, ho⟩
  obtain ⟨ao, cap, rfl⟩ := ho.formV
  rw [splB_len] at *
  exact ⟨ao, _, cap, rfl, by rw [beq_eq_false_iff_ne]; omega, hb1⟩

theorem read_three (s : ByteArray) (hz : (nmB s).size ≤ 1048576) (h : (nmL s).length = 3) (w : World) : Calls Tryd.prog 29 #[.string (nmB s)] w fun e W' => ∃ g cap, e = .returned (.tuple #[.slice (some ⟨g, 0, none⟩) 3 cap, .bool true]) ∧ Below w.heap.size w W' ∧ g < W'.heap.size ∧ W'.cell? ⟨g, 0, none⟩ = some (.int .i64 (gz (nmL s) 0)) ∧ W'.cell? ⟨g, 1, none⟩ = some (.int .i64 (gz (nmL s) 1)) ∧ W'.cell? ⟨g, 2, none⟩ = some (.int .i64 (gz (nmL s) 2)) := by
  have eL : rlL (nmB s) = nmL s := by unfold nmL; rfl
  have hB : rlB (nmB s) = true := by
    cases hb : rlB (nmB s) with
    | true => rfl
    | false => rw [← eL, rl_false hb] at h; simp at h
  refine (s_ReadList (nmB s) w hz).mono ?_
  rintro e w1 ⟨v, rfl, hb1, ho⟩
  rw [eL, h, iz_ic] at ho
  obtain ⟨g, cap, rfl, -, hr⟩ := ho.opened (by simp)
  exact ⟨g, cap, by rw [hB], hb1, hr.1, hr.cell (i := 0) (by simp), hr.cell (i := 1) (by simp), hr.cell (i := 2) (by simp)⟩
theorem read_bad (s : ByteArray) (hz : (nmB s).size ≤ 1048576) (h : rlB (nmB s) = false) (w : World) : Calls Tryd.prog 29 #[.string (nmB s)] w fun e W' => ∃ (ao : Option Addr) (n cap : Nat), e = .returned (.tuple #[.slice ao n cap, .bool false]) ∧ Below w.heap.size w W' := by
  refine (s_ReadList (nmB s) w hz).mono ?_
  rintro e w1 ⟨v, rfl, hb1, ho⟩
  obtain ⟨ao, cap, rfl⟩ := ho.formV
  exact ⟨ao, _, cap, by rw [h], hb1⟩
theorem read_long (s : ByteArray) (hz : (nmB s).size ≤ 1048576) (h : rlB (nmB s) = true) (h3 : ¬ (nmL s).length = 3) (w : World) : Calls Tryd.prog 29 #[.string (nmB s)] w fun e W' => ∃ (ao : Option Addr) (n cap : Nat), e = .returned (.tuple #[.slice ao n cap, .bool true]) ∧ ((n : Int) == 3) = false ∧ Below w.heap.size w W' := by
  have eL : rlL (nmB s) = nmL s := by unfold nmL; rfl
  refine (s_ReadList (nmB s) w hz).mono ?_
  rintro e w1 ⟨v, rfl, hb1, ho⟩
  rw [eL] at ho
  obtain ⟨ao, cap, rfl⟩ := ho.formV
  exact ⟨ao, _, cap, by rw [h], by rw [beq_eq_false_iff_ne]; omega, hb1⟩

theorem s_l04Three_no (s : ByteArray) (W : World) (hs : s.size ≤ 1048576) (h : ¬ ((spl 32 [] s.data.toList).length = 2 ∧ (nmL s).length = 3)) : Calls Tryd.prog 50 #[.string s] W fun e W' => e = .returned (.tuple #[.string ⟨#[]⟩, .slice none 0 0, .bool false]) ∧ Below W.heap.size W W' := by
  have hz := nm_size s hs
  by_cases h2 : (spl 32 [] s.data.toList).length = 2
  · have HS := Lib.hid (fun w => split_two w hs h2)
    have h4 : ¬ (nmL s).length = 3 := fun e => h ⟨h2, e⟩
    cases hB : rlB (nmB s)
    · have HR := Lib.hid (fun w => read_bad s hz.2 hB w)
      clear h2 h4 hB hz h
      go_enter Tryd.func50, Tryd.ntmps50
      go_wp2_with (first | (go_at_call 28; refine (HS.out _).mono ?_; rintro e w1 ⟨g, cap, rfl, hb1, hg, s0, s1⟩) | (go_at_call 29; refine (HR.out _).mono ?_; rintro e w2 ⟨ao, n, hcap, rfl, hb2⟩))
      refine bodyPost_ret (results_tmp3 rfl _ _ _) rfl ⟨rfl, kept_trans hb1 hb2⟩
    · have HR := Lib.hid (fun w => read_long s hz.2 hB h4 w)
      clear h2 h4 hB hz h
      go_enter Tryd.func50, Tryd.ntmps50
      go_wp2_with (first | (go_at_call 28; refine (HS.out _).mono ?_; rintro e w1 ⟨g, cap, rfl, hb1, hg, s0, s1⟩) | (go_at_call 29; refine (HR.out _).mono ?_; rintro e w2 ⟨ao, n, hcap, rfl, hn3, hb2⟩))
      refine bodyPost_ret (results_tmp3 rfl _ _ _) rfl ⟨rfl, kept_trans hb1 hb2⟩
  · have HS := Lib.hid (fun w => split_not w hs h2)
    clear h2 hz h
    go_enter Tryd.func50, Tryd.ntmps50
    go_wp2_with (go_at_call 28; refine (HS.out _).mono ?_; rintro e w1 ⟨ao, n, cap, rfl, hn2, hb1⟩)
    refine bodyPost_ret (results_tmp3 rfl _ _ _) rfl ⟨rfl, hb1⟩
theorem s_l04Three_yes (s : ByteArray) (W : World) (hs : s.size ≤ 1048576) (h2 : (spl 32 [] s.data.toList).length = 2) (h4 : (nmL s).length = 3) : Calls Tryd.prog 50 #[.string s] W fun e W' => ∃ g cap, e = .returned (.tuple #[.string (nmA s), .slice (some ⟨g, 0, none⟩) 3 cap, .bool true]) ∧ Below W.heap.size W W' ∧ g < W'.heap.size ∧ W'.cell? ⟨g, 0, none⟩ = some (.int .i64 (gz (nmL s) 0)) ∧ W'.cell? ⟨g, 1, none⟩ = some (.int .i64 (gz (nmL s) 1)) ∧ W'.cell? ⟨g, 2, none⟩ = some (.int .i64 (gz (nmL s) 2)) := by
  have hz := nm_size s hs
  have HS := Lib.hid (fun w => split_two w hs h2)
  have HR := Lib.hid (fun w => read_three s hz.2 h4 w)
  clear h2 h4 hz
  generalize gz (nmL s) = z at *
  generalize nmA s = na at *
  generalize nmB s = nb at *
  go_enter Tryd.func50, Tryd.ntmps50
  go_wp2_with (first | (go_at_call 28; refine (HS.out _).mono ?_; rintro e w1 ⟨g, cap, rfl, hb1, hg, s0, s1⟩) | (go_at_call 29; refine (HR.out _).mono ?_; rintro e w2 ⟨h, hcap, rfl, hb2, hh, c0, c1, c2⟩; have s2 := cell_keep hb2 s0))
  refine bodyPost_ret (results_tmp3 rfl _ _ _) rfl ⟨h, hcap, rfl, kept_trans hb1 hb2, hh, c0, c1, c2⟩

set_option maxHeartbeats 800000 in
theorem s_l18Read (s : ByteArray) (W : World) (hs : s.size ≤ 1048576) : Calls Tryd.prog 33 #[.string s] W fun e W' => e = .returned (.tuple #[.agg #[.string (rfA s), .int .i64 (rfV s 0), .int .i64 (rfV s 1), .int .i64 (rfV s 2)], .bool (rfOk s)]) ∧ Below W.heap.size W W' := by
  have KA := kept_alloc (Below.refl W.heap.size W) (.cells #[.string ⟨#[]⟩, .int .i64 0, .int .i64 0, .int .i64 0] 39)
  have r0 := BoxAt.new W (.string ⟨#[]⟩) (.int .i64 0) (.int .i64 0) (.int .i64 0) 39
  have hz := nm_size s hs
  by_cases h24 : (spl 32 [] s.data.toList).length = 2 ∧ (nmL s).length = 3
  · obtain ⟨h2, h4⟩ := h24
    have HS := Lib.hid (fun w => s_l04Three_yes s w hs h2 h4)
    have HNO := Lib.hid (rf_hand (s := s)).1
    have HYES := Lib.hid (rf_hand (s := s)).2
    have ht := rf_two h2 h4
    have hna := hz.1
    clear h4 hz h2
    generalize rfA s = ra at *
    generalize rfV s = bv at *
    generalize gz (nmL s) = z at *
    generalize nmA s = na at *
    generalize rfOk s = bo at *
    generalize z 0 = z0 at *
    generalize z 1 = z1 at *
    generalize z 2 = z2 at *
    have HO := Lib.hid (fun g w c0 c1 c2 c3 => s_oneFare na z0 z1 z2 g 0 w (by omega) c0 c1 c2 c3)
    clear hna
    cases hv : vFa na z0 z1 z2
    · rw [hv] at HO ht
      subst ht
      have hr := Lib.hid (HNO.out rfl)
      clear HNO HYES hv
      go_enter Tryd.func33, Tryd.ntmps33
      go_upto_region 4 with (go_at_call 50; refine (HS.out _).mono ?_; rintro e w2 ⟨h, hcap, rfl, hb2, hh, c0, c1, c2⟩; have rA := r0.kept hb2; have K2 := kept_trans KA hb2)
      go_region
      have rB := rA.kept (kept_alloc (Below.refl w2.heap.size w2) (.cells #[.string na, .int .i64 z0, .int .i64 z1, .int .i64 z2] 39))
      have K3 := kept_alloc K2 (.cells #[.string na, .int .i64 z0, .int .i64 z1, .int .i64 z2] 39)
      have rN := (BoxAt.new w2 (.string na) (.int .i64 z0) (.int .i64 z1) (.int .i64 z2) 39).drew
      obtain ⟨-, n0, n1, n2, n3, -⟩ := id rN
      obtain ⟨-, y0, y1, y2, y3, yf⟩ := id rB
      have f0 := yf 0
      have f1 := yf 1
      have f2 := yf 2
      have f3 := yf 3
      go_wp2_with (go_at_call 51; refine (HO.out _ _ n0 n1 n2 n3).mono ?_; rintro e w3 ⟨rfl, rfl⟩)
      refine bodyPost_ret (v := .tuple #[.agg #[.string ⟨#[]⟩, .int .i64 0, .int .i64 0, .int .i64 0], .bool false]) (by simp [results, go_sem, y0, y1, y2, y3]) rfl ⟨by rw [hr.out.1, hr.out.2.1, hr.out.2.2.1, hr.out.2.2.2], ?_⟩
      exact kept_drew (kept_set (kept_set (kept_set (kept_set K3 (Nat.le_refl _) _) (Nat.le_refl _) _) (Nat.le_refl _) _) (Nat.le_refl _) _)
    · rw [hv] at HO ht
      subst ht
      have hr := Lib.hid (HYES.out rfl)
      clear HNO HYES hv
      go_enter Tryd.func33, Tryd.ntmps33
      go_upto_region 4 with (go_at_call 50; refine (HS.out _).mono ?_; rintro e w2 ⟨h, hcap, rfl, hb2, hh, c0, c1, c2⟩; have rA := r0.kept hb2; have K2 := kept_trans KA hb2)
      go_region
      have rB := rA.kept (kept_alloc (Below.refl w2.heap.size w2) (.cells #[.string na, .int .i64 z0, .int .i64 z1, .int .i64 z2] 39))
      have K3 := kept_alloc K2 (.cells #[.string na, .int .i64 z0, .int .i64 z1, .int .i64 z2] 39)
      have rN := (BoxAt.new w2 (.string na) (.int .i64 z0) (.int .i64 z1) (.int .i64 z2) 39).drew
      obtain ⟨-, n0, n1, n2, n3, -⟩ := id rN
      obtain ⟨-, y0, y1, y2, y3, yf⟩ := id rB
      have f0 := yf 0
      have f1 := yf 1
      have f2 := yf 2
      have f3 := yf 3
      go_wp2_with (go_at_call 51; refine (HO.out _ _ n0 n1 n2 n3).mono ?_; rintro e w3 ⟨rfl, rfl⟩)
      refine bodyPost_ret (v := .tuple #[.agg #[.string na, .int .i64 z0, .int .i64 z1, .int .i64 z2], .bool true]) (by simp [results, go_sem, y0, y1, y2, y3]) rfl ⟨by rw [hr.out.1, hr.out.2.1, hr.out.2.2.1, hr.out.2.2.2], ?_⟩
      exact kept_drew (kept_set (kept_set (kept_set (kept_set K3 (Nat.le_refl _) _) (Nat.le_refl _) _) (Nat.le_refl _) _) (Nat.le_refl _) _)
  · have hbz : rfOk s = false := by
      by_cases h2 : (spl 32 [] s.data.toList).length = 2
      · exact rf_no (fun e => h24 ⟨h2, e⟩)
      · exact rf_notwo h2
    have hr := Lib.hid ((rf_hand (s := s)).1 hbz)
    rw [hbz, hr.out.1, hr.out.2.1, hr.out.2.2.1, hr.out.2.2.2]
    have HS := Lib.hid (fun w => s_l04Three_no s w hs h24)
    clear hbz hr h24 hz
    go_enter Tryd.func33, Tryd.ntmps33
    go_wp2_with (go_at_call 50; refine (HS.out _).mono ?_; rintro e w1 ⟨rfl, hb1⟩; have K1 := kept_trans KA hb1; obtain ⟨-, y0, y1, y2, y3, yf⟩ := r0.kept hb1; have f0 := yf 0; have f1 := yf 1; have f2 := yf 2; have f3 := yf 3)
    refine bodyPost_ret (v := .tuple #[.agg #[.string ⟨#[]⟩, .int .i64 0, .int .i64 0, .int .i64 0], .bool false]) (by simp [results, go_sem, y0, y1, y2, y3]) rfl ⟨rfl, ?_⟩
    exact kept_set (kept_set (kept_set (kept_set K1 (Nat.le_refl _) _) (Nat.le_refl _) _) (Nat.le_refl _) _) (Nat.le_refl _) _

theorem s_ReadFare (s : ByteArray) (W : World) (hs : s.size ≤ 1048576) : Calls Tryd.prog 16 #[.string s] W fun e W' => e = .returned (.tuple #[.agg #[.string (rfA s), .int .i64 (rfV s 0), .int .i64 (rfV s 1), .int .i64 (rfV s 2)], .bool (rfOk s)]) ∧ Below W.heap.size W W' := by
  have HR := Lib.hid (fun w => s_l18Read s w hs)
  have KA := kept_alloc (Below.refl W.heap.size W) (.cells #[.string ⟨#[]⟩, .int .i64 0, .int .i64 0, .int .i64 0] 39)
  have r0 := BoxAt.new W (.string ⟨#[]⟩) (.int .i64 0) (.int .i64 0) (.int .i64 0) 39
  generalize rfA s = ra at *
  generalize rfV s = bv at *
  generalize rfOk s = bo at *
  go_enter Tryd.func16, Tryd.ntmps16
  go_wp2_with (go_at_call 33; refine (HR.out _).mono ?_; rintro e w1 ⟨rfl, hb1⟩; obtain ⟨-, y0, y1, y2, y3, yf⟩ := r0.kept hb1; have f0 := yf 0; have f1 := yf 1; have f2 := yf 2; have f3 := yf 3)
  refine bodyPost_ret (v := .tuple #[.agg #[.string ra, .int .i64 (bv 0), .int .i64 (bv 1), .int .i64 (bv 2)], .bool bo]) (by simp [results, go_sem, y0, y1, y2, y3]) rfl ⟨rfl, ?_⟩
  exact kept_set (kept_set (kept_set (kept_set (kept_trans KA hb1) (Nat.le_refl _) _) (Nat.le_refl _) _) (Nat.le_refl _) _) (Nat.le_refl _) _

set_option maxHeartbeats 800000 in
theorem l_ReadFare (s : ByteArray) (hs : s.size ≤ 140737488351232) (W : World) (h : TabM W) : Calls Tryd.prog 6 #[.string s] W (Truly W) := by
  unfold Truly
  by_cases hl : s.size ≤ 1048576
  · have HI := Lib.hid (fun w h1 => i_ReadFare s w hl h1)
    have HTB := Lib.hid h
    have HS := Lib.hid (fun w => s_ReadFare s w hl)
    generalize rfA s = a at *
    generalize rfV s 0 = b at *
    generalize rfV s 1 = c at *
    generalize rfV s 2 = d at *
    generalize rfOk s = ok at *
    have HE := Lib.hid (fun w => l_eqFare a b c d w)
    clear h
    cases ok
    all_goals
      go_enter Tryd.func6, Tryd.ntmps6
      go_wp2_with (first
        | (go_at_call 16; refine (HS.out _).mono ?_; rintro e w1 ⟨rfl, hb1⟩; have K1 := kept_alloc hb1 (.cells #[.string a, .int .i64 b, .int .i64 c, .int .i64 d] 39))
        | (go_at_call 17; refine (HI.out _ (HTB.out.kept (by assumption))).mono ?_; rintro e w2 ⟨rfl, hb2⟩; have q0 : w2.cell? ⟨w1.heap.size, 0, none⟩ = some (.string a) := cell_keep hb2 (boxed_at rfl rfl); have q1 : w2.cell? ⟨w1.heap.size, 1, none⟩ = some (.int .i64 b) := cell_keep hb2 (boxed_at rfl rfl); have q2 : w2.cell? ⟨w1.heap.size, 2, none⟩ = some (.int .i64 c) := cell_keep hb2 (boxed_at rfl rfl); have q3 : w2.cell? ⟨w1.heap.size, 3, none⟩ = some (.int .i64 d) := cell_keep hb2 (boxed_at rfl rfl); have y0 := fun o => cell_keep (kept_alloc (Below.refl w2.heap.size w2) o) q0; have y1 := fun o => cell_keep (kept_alloc (Below.refl w2.heap.size w2) o) q1; have y2 := fun o => cell_keep (kept_alloc (Below.refl w2.heap.size w2) o) q2; have y3 := fun o => cell_keep (kept_alloc (Below.refl w2.heap.size w2) o) q3; have K2 := kept_trans K1 hb2)
        | (go_at_call 18; refine (HE.out _).mono ?_; rintro e w3 ⟨rfl, hb3⟩; have K3 := kept_trans (kept_alloc K2 (.cells #[.string a, .int .i64 b, .int .i64 c, .int .i64 d] 39)) hb3))
      go_ret
      exact ⟨rfl, K3⟩
  · go_enter Tryd.func6, Tryd.ntmps6
    go_wp2
    go_ret
    exact ⟨rfl, Below.refl _ _⟩

end Go.Proofs.YtjgajablgddkcaaDoor
