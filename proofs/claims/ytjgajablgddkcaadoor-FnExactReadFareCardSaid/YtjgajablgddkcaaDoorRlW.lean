/- A list of numbers read off its text: the specification's walk. -/
import Derived.Test.YtjgajablgddkcaaDoorRlS
namespace Go.Proofs.YtjgajablgddkcaaDoor
open Go.RowKit Go.Deep
set_option linter.unusedVariables false
set_option maxRecDepth 100000

set_option maxHeartbeats 1600000 in
theorem s_ReadList (s : ByteArray) (W : World) (hs : s.size ≤ 1048576) : Calls Tryd.prog 29 #[.string s] W fun e W' => ∃ g, e = .returned (.tuple #[g, .bool (rlB s)]) ∧ Below W.heap.size W W' ∧ Out W' W.heap.size 2 1 g (rlL s).length (iz (rlL s)) := by
  obtain ⟨i0, hi, hz0, hz1, hz2⟩ := info_parts infoZ
  by_cases hd : s = ⟨#[45]⟩
  · obtain ⟨h1, h2⟩ := rl_dash hd
    rw [h1, h2]
    subst hd
    clear h1 h2
    go_enter Tryd.func29, Tryd.ntmps29
    go_wp2
    refine bodyPost_ret (results_tmp2 rfl _ _ _) rfl ⟨_, rfl, (by repeat (first | assumption | exact Below.refl _ _ | refine kept_drew ?_ | refine kept_drewN ?_ _ | refine kept_alloc ?_ _ | refine kept_set ?_ ?_ _ | (simp; done) | (simp; omega) | refine kept_trans ?_ (by assumption))), Out.empty _ _ _ _ _ (Nat.le_refl _)⟩
  · have hq : (s.toList == (⟨#[45]⟩ : ByteArray).toList) = false := neq_lists hd
    rw [show (⟨#[45]⟩ : ByteArray).toList = [45] by rw [ByteArray.toList_eq]] at hq
    have HLONG := Lib.hid (fun h => rl_long (s := s) hd h)
    have HBAD := Lib.hid (fun k => rl_bad (s := s) hd (k := k))
    have HGOOD := Lib.hid (rl_good (s := s) hd)
    have HSP := Lib.hid (fun w => s_l01Split s 44 44 rfl w hs)
    have HTS := Lib.hid (ts_part s)
    have HSZ := Lib.hid (fun k => Nat.le_trans (part_size s k) hs)
    have HN : Hid (∀ z : ByteArray, z.size ≤ 1048576 → ∀ w, Calls Tryd.prog 35 #[.string z] w fun e W' => e = .returned (.tuple #[.int .i64 (numV z.data.toList), .bool (numB z.data.toList)]) ∧ w = W') := fun z hz w => s_l01Number z w (by omega)
    have HK0 := Lib.hid (numsK_zero (partZ s))
    have HKS := Lib.hid (numsK_succ (partZ s))
    have HOK : Hid (∀ k, (numB (partZ s k).data.toList = false ∧ okZ (partZ s k) = false) ∨ (numB (partZ s k).data.toList = true ∧ inB (numV (partZ s k).data.toList) (-1000000000000) 1000000000000 = false ∧ okZ (partZ s k) = false) ∨ (numB (partZ s k).data.toList = true ∧ inB (numV (partZ s k).data.toList) (-1000000000000) 1000000000000 = true ∧ okZ (partZ s k) = true)) := fun k => by
      unfold okZ
      cases numB (partZ s k).data.toList
      · exact .inl ⟨rfl, rfl⟩
      · cases inB (numV (partZ s k).data.toList) (-1000000000000) 1000000000000
        · exact .inr (.inl ⟨rfl, rfl, rfl⟩)
        · exact .inr (.inr ⟨rfl, rfl, rfl⟩)
    clear hd
    have HNk : Hid (∀ k w, Calls Tryd.prog 35 #[.string (partZ s k)] w fun e W' => e = .returned (.tuple #[.int .i64 (numV (partZ s k).data.toList), .bool (numB (partZ s k).data.toList)]) ∧ w = W') := fun k w => HN.out _ (HSZ.out k) w
    clear HN HSZ
    generalize rlB s = B at *
    generalize rlL s = RL at *
    generalize hnv : (fun k => numV (partZ s k).data.toList) = nv
    generalize hnb : (fun k => numB (partZ s k).data.toList) = nb
    generalize hok : (fun k => okZ (partZ s k)) = ok
    have e1 : ∀ k, numV (partZ s k).data.toList = nv k := fun k => by subst hnv; rfl
    have e2 : ∀ k, numB (partZ s k).data.toList = nb k := fun k => by subst hnb; rfl
    have e3 : ∀ k, okZ (partZ s k) = ok k := fun k => by subst hok; rfl
    simp only [e1, e2, e3] at HNk HKS HOK HBAD HGOOD
    clear e1 e2 e3 hnv hnb hok
    generalize numsK (partZ s) = NK at *
    generalize partZ s = pz at *
    generalize splB 44 s = PL at *
    by_cases hlong : 64 < PL.length
    · have hr := HLONG.out hlong
      rw [hr.1, hr.2]
      have HSP2 : Hid (∀ w, Calls Tryd.prog 28 #[.string s, .int .u8 44] w fun e W' => ∃ (ao : Option Addr) (n cap : Nat), e = .returned (.slice ao n cap) ∧ (64 < n) ∧ Below w.heap.size w W') := fun w => by
        refine (HSP.out w).mono ?_
        rintro e w ⟨g, rfl, hb1, ho⟩
        obtain ⟨ao, cap, rfl⟩ := ho.formV
        exact ⟨ao, _, cap, rfl, hlong, hb1⟩
      clear HSP HLONG HBAD HGOOD HTS HNk HK0 HKS HOK hr hlong
      go_enter Tryd.func29, Tryd.ntmps29
      go_wp2_with (go_at_call 28; refine (HSP2.out _).mono ?_; rintro e w1 ⟨ao, n, cap, rfl, hn2, hb1⟩)
      refine bodyPost_ret (results_tmp2 rfl _ _ _) rfl ⟨_, rfl, hb1, Out.nil _ _ _ _ _⟩
    · have HSP3 : Hid (∀ w, Calls Tryd.prog 28 #[.string s, .int .u8 44] w fun e W' => ∃ (ao : Option Addr) (cap : Nat), e = .returned (.slice ao PL.length cap) ∧ Below w.heap.size w W' ∧ (PL.length ≤ 0 ∨ ∃ g off, ao = some ⟨g, off, none⟩ ∧ ∀ i, i < PL.length → W'.cell? ⟨g, off + i, none⟩ = some (.string (pz i)))) := fun w => by
        refine (HSP.out w).mono ?_
        rintro e w ⟨g, rfl, hb1, ho⟩
        obtain ⟨-, ao, cap, rfl, hr⟩ := ho.sl (by omega)
        refine ⟨ao, cap, rfl, hb1, ?_⟩
        rcases hr with h0 | ⟨g, off, rfl, hr⟩
        · exact .inl (by omega)
        · refine .inr ⟨g, off, rfl, fun i hi => ?_⟩
          have c := hr.cell (i := i) (by omega)
          rw [HTS.out] at c
          exact c
      clear HSP HTS HLONG
      generalize PL.length = n at *
      have hn64 : n ≤ 64 := by omega
      clear hlong
      go_enter Tryd.func29, Tryd.ntmps29
      go_wp2_with (go_at_call 28; refine (HSP3.out _).mono ?_; rintro e w1 ⟨ao, cap, rfl, hb1, hcells⟩)
      go_loopw [5, 6, 7, 8] (fun u i x y wr => ∃ (k : Nat) (z : Value), k ≤ n ∧ i = .int .i64 k ∧ z = u ∧ Below w1.heap.size w1 wr ∧ (NK k).length = k ∧ Hid (∀ j, j < k → ok j = true) ∧ Out wr w1.heap.size 2 1 z (NK k).length (iz (NK k))) (fun _ i _ _ _ => n - (intOf i).toNat)
      case atStart => exact ⟨0, _, by omega, rfl, rfl, kept_alloc (Below.refl _ _) _, by rw [HK0.out]; rfl, fun j hj => absurd hj (by omega), by rw [HK0.out]; exact Out.empty _ _ _ _ _ (Nat.le_refl _)⟩
      case round =>
        obtain ⟨k, z, hk, rfl, rfl, hbl, hlen, hgood, hown⟩ := hrel
        by_cases hlt : k < n
        · rcases hcells with h0 | ⟨g, off, rfl, hcells⟩
          · omega
          have c0 := cell_keep hbl (hcells k hlt)
          have HC := Lib.hid (HNk.out k)
          have HI := Lib.hid (fun w => s_l00In (nv k) (-1000000000000) 1000000000000 w)
          rcases HOK.out k with ⟨o1, o3⟩ | ⟨o1, o2, o3⟩ | ⟨o1, o2, o3⟩
          · rw [o1] at HC
            have hr := Lib.hid (HBAD.out k hlt o3)
            clear o1 o3
            go_wp2_with (first | (go_at_call 35; refine (HC.out _).mono ?_; rintro e w2 ⟨rfl, rfl⟩))
            refine bodyPost_ret (results_tmp2 rfl _ _ _) rfl ⟨_, by rw [hr.out.1]; rfl, kept_trans hb1 hbl, by rw [hr.out.2]; exact Out.nil _ _ _ _ _⟩
          · rw [o1] at HC
            rw [o2] at HI
            have hr := Lib.hid (HBAD.out k hlt o3)
            clear o1 o2 o3
            go_wp2_with (first | (go_at_call 35; refine (HC.out _).mono ?_; rintro e w2 ⟨rfl, rfl⟩) | (go_at_call 37; refine (HI.out _).mono ?_; rintro e w2 ⟨rfl, rfl⟩))
            refine bodyPost_ret (results_tmp2 rfl _ _ _) rfl ⟨_, by rw [hr.out.1]; rfl, kept_trans hb1 hbl, by rw [hr.out.2]; exact Out.nil _ _ _ _ _⟩
          · rw [o1] at HC
            rw [o2] at HI
            have hg2 : Hid (∀ j, j < k + 1 → ok j = true) := fun j hj => by
              by_cases e : j = k
              · rw [e]; exact o3
              · exact hgood.out j (by omega)
            have hK := HKS.out k
            clear o1 o2 o3
            go_wp2_with (first | (go_at_call 35; refine (HC.out _).mono ?_; rintro e w2 ⟨rfl, rfl⟩) | (go_at_call 37; refine (HI.out _).mono ?_; rintro e w2 ⟨rfl, rfl⟩) | (at_builtin; refine wpList_append_own _ rfl _ _ 53 rfl _ 2 i0 _ 1 8 Tryd.underlying53 hi hz0 hz1 hz2 rfl (by decide) _ _ _ rfl ((hown).row.alloc _) ⟨wr.heap.size, 0, none⟩ 1 1 _ (by rfl) (by rfl) (laid_at (by simp)) (by intro u hu; simp at hu; first | (rcases hu with rfl | rfl <;> rfl) | (subst hu; rfl)) (by simp only [maxLen]; omega) (by omega) (by have hbs := hbl.size; simp at hbs ⊢; omega) ?_; intro v1 w1 hown1 hgrow1 _))
            have R1 := Lib.hid (Out.snocZ hown1)
            have R2 := below_of_append hbl hown.row hgrow1
            clear hown hown1 hgrow1 hbl c0
            try go_wp2
            go_roundw
            case rel => exact ⟨k + 1, _, by omega, by go_num, rfl, R2, by rw [hK]; simp; omega, hg2, by rw [hK]; exact R1.out⟩
            case measure => simp [intOf]; omega
        · obtain rfl : k = n := by omega
          have hr := Lib.hid (HGOOD.out hn64 hgood.out)
          go_wp2
          refine bodyPost_ret (results_tmp2 rfl _ _ _) rfl ⟨_, by rw [hr.out.1]; rfl, kept_trans hb1 hbl, by rw [hr.out.2]; exact hown.base_le hb1.size⟩

end Go.Proofs.YtjgajablgddkcaaDoor
