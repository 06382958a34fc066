/- A basin read off its text: both walks. -/
import Derived.Test.YtmgbbfbalmlpiaaGreatDoorRlI
import Derived.Test.YtmgbbfbalmlpiaaGreatDoorRlW
import Derived.Test.YtmgbbfbalmlpiaaGreatDoorBox
import Derived.Test.YtmgbbfbalmlpiaaGreatDoorBallast
import Derived.RegionTactic
import Derived.BigRegion
namespace Go.Proofs.YtmgbbfbalmlpiaaGreatDoor
open Go.RowKit Go.Deep
set_option linter.unusedVariables false
set_option maxRecDepth 100000

theorem rl_false {s : ByteArray} (h : rlB s = false) : rlL s = [] := by
  by_cases hd : s = ⟨#[45]⟩
  · rw [(rl_dash hd).1] at h; cases h
  · rw [rl_of hd, h]; rfl
/-- Whether a text is a basin's, and its numbers. -/
def bzOk (s : ByteArray) : Bool := decide ((rlL s).length = 4) && vBasin (gz (rlL s) 0) (gz (rlL s) 1) (gz (rlL s) 2) (gz (rlL s) 3)
def bzV (s : ByteArray) (i : Nat) : Int := if bzOk s = true then gz (rlL s) i else 0
theorem bz_no {s : ByteArray} (h : bzOk s = false) (i : Nat) : bzV s i = 0 := by unfold bzV; rw [h]; rfl
theorem bz_yes {s : ByteArray} (h : bzOk s = true) (i : Nat) : bzV s i = gz (rlL s) i := by unfold bzV; rw [if_pos h]
theorem bz_len {s : ByteArray} (h : ¬ (rlL s).length = 4) : bzOk s = false := by unfold bzOk; rw [decide_eq_false h]; rfl
theorem bz_four {s : ByteArray} (h : (rlL s).length = 4) : bzOk s = vBasin (gz (rlL s) 0) (gz (rlL s) 1) (gz (rlL s) 2) (gz (rlL s) 3) := by unfold bzOk; rw [decide_eq_true h]; rfl

theorem i_readNumbers (s : ByteArray) (m : Nat) (hm : m ≤ 64) (W : World) (hs : s.size ≤ 1048576) (htab : TabM W) : Calls Tryz.prog 34 #[.string s, .int .i64 m] W fun e W' => ∃ g, e = .returned (.tuple #[g, .bool (decide ((rlL s).length = m))]) ∧ Below W.heap.size W W' ∧ Sl W' g 1 (rlL s).length (iz (rlL s)) := by
  have HR := Lib.hid (i_ReadList s W hs htab)
  generalize rlL s = L at *
  have HRL : Hid (Calls Tryz.prog 49 #[.string s] W fun e W' => ∃ (ao : Option Addr) (cap : Nat) (B : Bool), e = .returned (.tuple #[.slice ao L.length cap, .bool B]) ∧ Below W.heap.size W W' ∧ Sl W' (.slice ao L.length cap) 1 L.length (iz L)) := by
    refine HR.out.mono ?_
    rintro e w1 ⟨v, rfl, hb1, hs1⟩
    have hs2 := hs1
    obtain ⟨-, ao, cap, rfl, -⟩ := hs1
    exact ⟨ao, cap, _, rfl, hb1, hs2⟩
  have he : ((L.length : Int) == (m : Int)) = decide (L.length = m) := by
    by_cases h : L.length = m
    · rw [h]; simp
    · rw [decide_eq_false h, beq_eq_false_iff_ne]; omega
  have HE := Lib.hid he
  clear HR he htab
  generalize L.length = n at *
  generalize iz L = F at *
  go_enter Tryz.func34, Tryz.ntmps34
  go_wp2_with (go_at_call 49; refine HRL.out.mono ?_; rintro e w1 ⟨ao, cap, B, rfl, hb1, hs1⟩)
  refine bodyPost_ret (results_tmp2 rfl _ _ _) rfl ⟨_, by rw [← HE.out]; rfl, hb1, hs1⟩

set_option maxHeartbeats 800000 in
theorem i_ReadBasin (s : ByteArray) (W : World) (hs : s.size ≤ 1048576) (htab : TabM W) : Calls Tryz.prog 12 #[.string s] W fun e W' => e = .returned (.tuple #[.agg #[.int .i64 (bzV s 0), .int .i64 (bzV s 1), .int .i64 (bzV s 2), .int .i64 (bzV s 3)], .bool (bzOk s)]) ∧ Below W.heap.size W W' := by
  have KA := kept_alloc (Below.refl W.heap.size W) (.cells #[.int .i64 0, .int .i64 0, .int .i64 0, .int .i64 0] 25)
  have HR := Lib.hid (i_readNumbers s 4 (by omega) _ hs (htab.kept KA))
  have r0 := BoxAt.new W (.int .i64 0) (.int .i64 0) (.int .i64 0) (.int .i64 0) 25
  clear htab
  by_cases h4 : (rlL s).length = 4
  · have HRL : Hid (Calls Tryz.prog 34 #[.string s, .int .i64 4] (W.alloc (.cells #[.int .i64 0, .int .i64 0, .int .i64 0, .int .i64 0] 25)) fun e W' => ∃ g o cap, e = .returned (.tuple #[.slice (some ⟨g, o, none⟩) 4 cap, .bool true]) ∧ Below (W.alloc (.cells #[.int .i64 0, .int .i64 0, .int .i64 0, .int .i64 0] 25)).heap.size (W.alloc (.cells #[.int .i64 0, .int .i64 0, .int .i64 0, .int .i64 0] 25)) W' ∧ g < W'.heap.size ∧ W'.cell? ⟨g, o, none⟩ = some (.int .i64 (gz (rlL s) 0)) ∧ W'.cell? ⟨g, o + 1, none⟩ = some (.int .i64 (gz (rlL s) 1)) ∧ W'.cell? ⟨g, o + 2, none⟩ = some (.int .i64 (gz (rlL s) 2)) ∧ W'.cell? ⟨g, o + 3, none⟩ = some (.int .i64 (gz (rlL s) 3))) := by
      refine HR.out.mono ?_
      rintro e w1 ⟨v, rfl, hb1, ho⟩
      rw [h4, iz_ic] at ho
      obtain ⟨-, ao, cap, rfl, h0 | ⟨g, o, rfl, hr⟩⟩ := ho
      · omega
      exact ⟨g, o, cap, by rw [decide_eq_true h4], hb1, hr.1, hr.cell (i := 0) (by simp), hr.cell (i := 1) (by simp), hr.cell (i := 2) (by simp), hr.cell (i := 3) (by simp)⟩
    have HF := Lib.hid (bz_four h4)
    have HNO : Hid (bzOk s = false → bzV s 0 = 0 ∧ bzV s 1 = 0 ∧ bzV s 2 = 0 ∧ bzV s 3 = 0) := fun h => ⟨bz_no h _, bz_no h _, bz_no h _, bz_no h _⟩
    have HYES : Hid (bzOk s = true → bzV s 0 = gz (rlL s) 0 ∧ bzV s 1 = gz (rlL s) 1 ∧ bzV s 2 = gz (rlL s) 2 ∧ bzV s 3 = gz (rlL s) 3) := fun h => ⟨bz_yes h _, bz_yes h _, bz_yes h _, bz_yes h _⟩
    clear HR h4
    generalize bzV s = bv at *
    generalize bzOk s = bo at *
    generalize gz (rlL s) = z at *
    generalize z 0 = z0 at *
    generalize z 1 = z1 at *
    generalize z 2 = z2 at *
    generalize z 3 = z3 at *
    have HO := Lib.hid (fun w => i_ValidBasin z0 z1 z2 z3 w)
    cases hv : vBasin z0 z1 z2 z3
    · rw [hv] at HO HF
      have hr := Lib.hid (HNO.out HF.out)
      rw [HF.out]
      clear HNO HYES hv
      go_enter Tryz.func12, Tryz.ntmps12
      go_upto_region 4 with (go_at_call 34; refine HRL.out.mono ?_; rintro e w1 ⟨g, o, cap, rfl, hb1, hg, c0, c1, c2, c3⟩; have rA := r0.kept hb1; have K1 := kept_trans KA hb1)
      go_region
      have rB := rA.kept (kept_alloc (Below.refl w1.heap.size w1) (.cells #[.int .i64 z0, .int .i64 z1, .int .i64 z2, .int .i64 z3] 25))
      have K2 := kept_alloc K1 (.cells #[.int .i64 z0, .int .i64 z1, .int .i64 z2, .int .i64 z3] 25)
      have rN := BoxAt.new w1 (.int .i64 z0) (.int .i64 z1) (.int .i64 z2) (.int .i64 z3) 25
      obtain ⟨-, n0, n1, n2, n3, -⟩ := id rN
      go_wp2_with (go_at_call 28; refine (HO.out _).mono ?_; rintro e w2 ⟨rfl, hb2⟩; obtain ⟨-, y0, y1, y2, y3, yf⟩ := rB.drew.kept hb2; have f0 := yf 0; have f1 := yf 1; have f2 := yf 2; have f3 := yf 3; have K3 := kept_trans (kept_drew K2) hb2)
      refine bodyPost_ret (v := .tuple #[.agg #[.int .i64 0, .int .i64 0, .int .i64 0, .int .i64 0], .bool false]) (by simp [results, go_sem, y0, y1, y2, y3]) rfl ⟨by rw [hr.out.1, hr.out.2.1, hr.out.2.2.1, hr.out.2.2.2], ?_⟩
      exact kept_set (kept_set (kept_set (kept_set K3 (Nat.le_refl _) _) (Nat.le_refl _) _) (Nat.le_refl _) _) (Nat.le_refl _) _
    · rw [hv] at HO HF
      have hr := Lib.hid (HYES.out HF.out)
      rw [HF.out]
      clear HNO HYES hv
      go_enter Tryz.func12, Tryz.ntmps12
      go_upto_region 4 with (go_at_call 34; refine HRL.out.mono ?_; rintro e w1 ⟨g, o, cap, rfl, hb1, hg, c0, c1, c2, c3⟩; have rA := r0.kept hb1; have K1 := kept_trans KA hb1)
      go_region
      have rB := rA.kept (kept_alloc (Below.refl w1.heap.size w1) (.cells #[.int .i64 z0, .int .i64 z1, .int .i64 z2, .int .i64 z3] 25))
      have K2 := kept_alloc K1 (.cells #[.int .i64 z0, .int .i64 z1, .int .i64 z2, .int .i64 z3] 25)
      have rN := BoxAt.new w1 (.int .i64 z0) (.int .i64 z1) (.int .i64 z2) (.int .i64 z3) 25
      obtain ⟨-, n0, n1, n2, n3, -⟩ := id rN
      go_wp2_with (go_at_call 28; refine (HO.out _).mono ?_; rintro e w2 ⟨rfl, hb2⟩; obtain ⟨-, y0, y1, y2, y3, yf⟩ := rB.drew.kept hb2; have f0 := yf 0; have f1 := yf 1; have f2 := yf 2; have f3 := yf 3; have K3 := kept_trans (kept_drew K2) hb2; obtain ⟨-, m0, m1, m2, m3, -⟩ := rN.drew.kept hb2)
      refine bodyPost_ret (v := .tuple #[.agg #[.int .i64 z0, .int .i64 z1, .int .i64 z2, .int .i64 z3], .bool true]) (by simp [results, go_sem, y0, y1, y2, y3]) rfl ⟨by rw [hr.out.1, hr.out.2.1, hr.out.2.2.1, hr.out.2.2.2], ?_⟩
      exact kept_set (kept_set (kept_set (kept_set K3 (Nat.le_refl _) _) (Nat.le_refl _) _) (Nat.le_refl _) _) (Nat.le_refl _) _
  · have hbz := bz_len h4
    rw [hbz, bz_no hbz, bz_no hbz, bz_no hbz, bz_no hbz]
    have HRL : Hid (Calls Tryz.prog 34 #[.string s, .int .i64 4] (W.alloc (.cells #[.int .i64 0, .int .i64 0, .int .i64 0, .int .i64 0] 25)) fun e W' => ∃ g, e = .returned (.tuple #[g, .bool false]) ∧ Below (W.alloc (.cells #[.int .i64 0, .int .i64 0, .int .i64 0, .int .i64 0] 25)).heap.size (W.alloc (.cells #[.int .i64 0, .int .i64 0, .int .i64 0, .int .i64 0] 25)) W') := by
      refine HR.out.mono ?_
      rintro e w1 ⟨v, rfl, hb1, ho⟩
      exact ⟨v, by rw [decide_eq_false h4], hb1⟩
    clear HR h4 hbz
    go_enter Tryz.func12, Tryz.ntmps12
    go_wp2_with (go_at_call 34; refine HRL.out.mono ?_; rintro e w1 ⟨g, rfl, hb1⟩; obtain ⟨-, y0, y1, y2, y3, yf⟩ := r0.kept hb1; have f0 := yf 0; have f1 := yf 1; have f2 := yf 2; have f3 := yf 3)
    refine bodyPost_ret (v := .tuple #[.agg #[.int .i64 0, .int .i64 0, .int .i64 0, .int .i64 0], .bool false]) (by simp [results, go_sem, y0, y1, y2, y3]) rfl ⟨rfl, ?_⟩
    exact kept_set (kept_set (kept_set (kept_set (kept_trans KA hb1) (Nat.le_refl _) _) (Nat.le_refl _) _) (Nat.le_refl _) _) (Nat.le_refl _) _

end Go.Proofs.YtmgbbfbalmlpiaaGreatDoor
