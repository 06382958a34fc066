/- A fare read off its text: the walks. -/
import Derived.Test.YtjmklkhdemolmaaGreatDoorRfP
import Derived.Test.YtjmklkhdemolmaaGreatDoorRlW
import Derived.Test.YtjmklkhdemolmaaGreatDoorMrgB
import Derived.Test.YtjmklkhdemolmaaGreatDoorCutB
import Derived.RegionTactic
import Derived.BigRegion
namespace Go.Proofs.YtjmklkhdemolmaaGreatDoor
open Go.RowKit Go.Deep
set_option linter.unusedVariables false
set_option maxRecDepth 100000

theorem i_readNamed (s : ByteArray) (W : World) (hs : s.size ≤ 1048576) (htab : TabM W) : Calls Tryz.prog 30 #[.string s, .int .i64 3] W fun e W' => ∃ g, e = .returned (.tuple #[.string (nmA s), g, .bool (decide ((nmL s).length = 3))]) ∧ Below W.heap.size W W' ∧ Sl W' g 1 (nmL s).length (iz (nmL s)) := by
  have HC := Lib.hid (c_Cutb s 32 W hs)
  have eA : bsL (cutA 32 s.data.toList) = nmA s := by unfold nmA; rfl
  have eB : bsL (cutB 32 s.data.toList) = nmB s := by unfold nmB; rfl
  rw [eA, eB] at HC
  have hz := nm_size s hs
  have HR : Hid (∀ w, TabM w → Calls Tryz.prog 46 #[.string (nmB s)] w fun e W' => ∃ (ao : Option Addr) (cap : Nat) (B : Bool), e = .returned (.tuple #[.slice ao (nmL s).length cap, .bool B]) ∧ Below w.heap.size w W' ∧ Sl W' (.slice ao (nmL s).length cap) 1 (nmL s).length (iz (nmL s))) := fun w ht => by
    have h := i_ReadList (nmB s) w hz.2 ht
    have eL : rlL (nmB s) = nmL s := by unfold nmL; rfl
    rw [eL] at h
    refine h.mono ?_
    rintro e w1 ⟨v, rfl, hb1, hs1⟩
    have hs2 := hs1
    obtain ⟨-, ao, cap, rfl, -⟩ := hs1
    exact ⟨ao, cap, _, rfl, hb1, hs2⟩
  have he : (((nmL s).length : Int) == 3) = decide ((nmL s).length = 3) := by
    by_cases h : (nmL s).length = 3
    · rw [h]; rfl
    · rw [decide_eq_false h, beq_eq_false_iff_ne]; omega
  have HE := Lib.hid he
  have HTB := Lib.hid htab
  clear he htab eA eB hz
  generalize (nmL s).length = n at *
  generalize iz (nmL s) = F at *
  generalize nmA s = A at *
  generalize nmB s = B at *
  go_enter Tryz.func30, Tryz.ntmps30
  go_wp2_with (first | (go_at_call 45; refine HC.out.mono ?_; rintro e w1 ⟨C, rfl, hb1⟩) | (go_at_call 46; refine (HR.out _ (HTB.out.kept hb1)).mono ?_; rintro e w2 ⟨ao, cap, D, rfl, hb2, hs2⟩))
  refine bodyPost_ret (results_tmp3 rfl _ _ _) rfl ⟨_, by rw [← HE.out]; rfl, kept_trans hb1 hb2, hs2⟩

set_option maxHeartbeats 800000 in
theorem i_ReadFare (s : ByteArray) (W : World) (hs : s.size ≤ 1048576) (htab : TabM W) : Calls Tryz.prog 11 #[.string s] W fun e W' => e = .returned (.tuple #[.agg #[.string (rfA s), .int .i64 (rfV s 0), .int .i64 (rfV s 1), .int .i64 (rfV s 2)], .bool (rfOk s)]) ∧ Below W.heap.size W W' := by
  have KA := kept_alloc (Below.refl W.heap.size W) (.cells #[.string ⟨#[]⟩, .int .i64 0, .int .i64 0, .int .i64 0] 32)
  have HR := Lib.hid (i_readNamed s _ hs (htab.kept KA))
  have HTB := Lib.hid (htab.kept KA)
  have r0 := BoxAt.new W (.string ⟨#[]⟩) (.int .i64 0) (.int .i64 0) (.int .i64 0) 32
  have hz := nm_size s hs
  clear htab
  by_cases h4 : (nmL s).length = 3
  · have HRL : Hid (Calls Tryz.prog 30 #[.string s, .int .i64 3] (W.alloc (.cells #[.string ⟨#[]⟩, .int .i64 0, .int .i64 0, .int .i64 0] 32)) fun e W' => ∃ g o cap, e = .returned (.tuple #[.string (nmA s), .slice (some ⟨g, o, none⟩) 3 cap, .bool true]) ∧ Below (W.alloc (.cells #[.string ⟨#[]⟩, .int .i64 0, .int .i64 0, .int .i64 0] 32)).heap.size (W.alloc (.cells #[.string ⟨#[]⟩, .int .i64 0, .int .i64 0, .int .i64 0] 32)) W' ∧ g < W'.heap.size ∧ W'.cell? ⟨g, o, none⟩ = some (.int .i64 (gz (nmL s) 0)) ∧ W'.cell? ⟨g, o + 1, none⟩ = some (.int .i64 (gz (nmL s) 1)) ∧ W'.cell? ⟨g, o + 2, none⟩ = some (.int .i64 (gz (nmL s) 2))) := by
      refine HR.out.mono ?_
      rintro e w1 ⟨v, rfl, hb1, ho⟩
      rw [h4, iz_ic] at ho
      obtain ⟨-, ao, cap, rfl, h0 | ⟨g, o, rfl, hr⟩⟩ := ho
      · omega
      exact ⟨g, o, cap, by rw [decide_eq_true h4], hb1, hr.1, hr.cell (i := 0) (by simp), hr.cell (i := 1) (by simp), hr.cell (i := 2) (by simp)⟩
    have HNO := Lib.hid (rf_hand (s := s)).1
    have HYES := Lib.hid (rf_hand (s := s)).2
    have HT : Hid (∀ w, TabM w → Calls Tryz.prog 12 #[.agg #[.string (nmA s), .int .i64 (gz (nmL s) 0), .int .i64 (gz (nmL s) 1), .int .i64 (gz (nmL s) 2)]] w fun e W' => e = .returned (.string (fareS (nmA s) (gz (nmL s) 0) (gz (nmL s) 1) (gz (nmL s) 2))) ∧ Below w.heap.size w W') := fun w h => i_FareText _ _ _ _ w (by omega) h.1
    have ht := rf_text h4
    clear HR h4 hz
    generalize rfA s = ra at *
    generalize rfV s = bv at *
    generalize gz (nmL s) = z at *
    generalize nmA s = na at *
    generalize rfOk s = bo at *
    generalize z 0 = z0 at *
    generalize z 1 = z1 at *
    generalize z 2 = z2 at *
    by_cases hq : fareS na z0 z1 z2 = s
    · rw [decide_eq_true hq] at ht
      subst ht
      rw [hq] at HT
      have hr := Lib.hid (HYES.out rfl)
      clear HNO HYES hq
      go_enter Tryz.func11, Tryz.ntmps11
      go_upto_region 4 with (go_at_call 30; refine HRL.out.mono ?_; rintro e w1 ⟨g, o, cap, rfl, hb1, hg, c0, c1, c2⟩; have rA := r0.kept hb1; have K1 := kept_trans KA hb1)
      go_region
      have rB := (rA.kept (kept_alloc (Below.refl w1.heap.size w1) (.cells #[.string na, .int .i64 z0, .int .i64 z1, .int .i64 z2] 32))).drew
      have K2 := kept_drew (kept_alloc K1 (.cells #[.string na, .int .i64 z0, .int .i64 z1, .int .i64 z2] 32))
      have KT := kept_drew (kept_alloc hb1 (.cells #[.string na, .int .i64 z0, .int .i64 z1, .int .i64 z2] 32))
      have rN := BoxAt.new w1 (.string na) (.int .i64 z0) (.int .i64 z1) (.int .i64 z2) 32
      obtain ⟨-, n0, n1, n2, n3, -⟩ := id rN
      go_wp2_with (go_at_call 12; refine (HT.out _ (HTB.out.kept KT)).mono ?_; rintro e w2 ⟨rfl, hb2⟩; obtain ⟨-, y0, y1, y2, y3, yf⟩ := rB.kept hb2; have f0 := yf 0; have f1 := yf 1; have f2 := yf 2; have f3 := yf 3; have K3 := kept_trans K2 hb2; obtain ⟨-, m0, m1, m2, m3, -⟩ := rN.drew.kept hb2)
      refine bodyPost_ret (v := .tuple #[.agg #[.string na, .int .i64 z0, .int .i64 z1, .int .i64 z2], .bool true]) (by simp [results, go_sem, y0, y1, y2, y3]) rfl ⟨by rw [hr.out.1, hr.out.2.1, hr.out.2.2.1, hr.out.2.2.2], ?_⟩
      exact kept_set (kept_set (kept_set (kept_set K3 (Nat.le_refl _) _) (Nat.le_refl _) _) (Nat.le_refl _) _) (Nat.le_refl _) _
    · rw [decide_eq_false hq] at ht
      subst ht
      generalize fareS na z0 z1 z2 = Q at *
      have hq2 : (Q.toList == s.toList) = false := neq_lists hq
      have hr := Lib.hid (HNO.out rfl)
      clear HNO HYES hq
      go_enter Tryz.func11, Tryz.ntmps11
      go_upto_region 4 with (go_at_call 30; refine HRL.out.mono ?_; rintro e w1 ⟨g, o, cap, rfl, hb1, hg, c0, c1, c2⟩; have rA := r0.kept hb1; have K1 := kept_trans KA hb1)
      go_region
      have rB := (rA.kept (kept_alloc (Below.refl w1.heap.size w1) (.cells #[.string na, .int .i64 z0, .int .i64 z1, .int .i64 z2] 32))).drew
      have K2 := kept_drew (kept_alloc K1 (.cells #[.string na, .int .i64 z0, .int .i64 z1, .int .i64 z2] 32))
      have KT := kept_drew (kept_alloc hb1 (.cells #[.string na, .int .i64 z0, .int .i64 z1, .int .i64 z2] 32))
      have rN := BoxAt.new w1 (.string na) (.int .i64 z0) (.int .i64 z1) (.int .i64 z2) 32
      obtain ⟨-, n0, n1, n2, n3, -⟩ := id rN
      go_wp2_with (go_at_call 12; refine (HT.out _ (HTB.out.kept KT)).mono ?_; rintro e w2 ⟨rfl, hb2⟩; obtain ⟨-, y0, y1, y2, y3, yf⟩ := rB.kept hb2; have f0 := yf 0; have f1 := yf 1; have f2 := yf 2; have f3 := yf 3; have K3 := kept_trans K2 hb2)
      refine bodyPost_ret (v := .tuple #[.agg #[.string ⟨#[]⟩, .int .i64 0, .int .i64 0, .int .i64 0], .bool false]) (by simp [results, go_sem, y0, y1, y2, y3]) rfl ⟨by rw [hr.out.1, hr.out.2.1, hr.out.2.2.1, hr.out.2.2.2], ?_⟩
      exact kept_set (kept_set (kept_set (kept_set K3 (Nat.le_refl _) _) (Nat.le_refl _) _) (Nat.le_refl _) _) (Nat.le_refl _) _
  · have hbz := rf_no h4
    have hr := Lib.hid ((rf_hand (s := s)).1 hbz)
    rw [hbz, hr.out.1, hr.out.2.1, hr.out.2.2.1, hr.out.2.2.2]
    have HRL : Hid (Calls Tryz.prog 30 #[.string s, .int .i64 3] (W.alloc (.cells #[.string ⟨#[]⟩, .int .i64 0, .int .i64 0, .int .i64 0] 32)) fun e W' => ∃ g, e = .returned (.tuple #[.string (nmA s), g, .bool false]) ∧ Below (W.alloc (.cells #[.string ⟨#[]⟩, .int .i64 0, .int .i64 0, .int .i64 0] 32)).heap.size (W.alloc (.cells #[.string ⟨#[]⟩, .int .i64 0, .int .i64 0, .int .i64 0] 32)) W') := by
      refine HR.out.mono ?_
      rintro e w1 ⟨v, rfl, hb1, ho⟩
      exact ⟨v, by rw [decide_eq_false h4], hb1⟩
    clear HR h4 hbz hr hz
    go_enter Tryz.func11, Tryz.ntmps11
    go_wp2_with (go_at_call 30; refine HRL.out.mono ?_; rintro e w1 ⟨g, rfl, hb1⟩; obtain ⟨-, y0, y1, y2, y3, yf⟩ := r0.kept hb1; have f0 := yf 0; have f1 := yf 1; have f2 := yf 2; have f3 := yf 3)
    refine bodyPost_ret (v := .tuple #[.agg #[.string ⟨#[]⟩, .int .i64 0, .int .i64 0, .int .i64 0], .bool false]) (by simp [results, go_sem, y0, y1, y2, y3]) rfl ⟨rfl, ?_⟩
    exact kept_set (kept_set (kept_set (kept_set (kept_trans KA hb1) (Nat.le_refl _) _) (Nat.le_refl _) _) (Nat.le_refl _) _) (Nat.le_refl _) _

end Go.Proofs.YtjmklkhdemolmaaGreatDoor
