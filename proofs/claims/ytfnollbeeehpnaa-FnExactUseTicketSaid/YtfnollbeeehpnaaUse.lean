/- The use of a ticket: the meaning, and the reference. -/
import Derived.Test.YtfnollbeeehpnaaTickS
import Derived.Test.YtfnollbeeehpnaaGLawU
namespace Go.Proofs.Ytfnollbeeehpnaa
open Go.RowKit Go.Deep
set_option linter.unusedVariables false
set_option maxRecDepth 100000

theorem boxed_free {w : World} {cs : Array Value} {t : TypeId} {k : Nat} (i : Nat) (hk : w.heap.size = k) : (w.alloc (.cells cs t)).frozen? ⟨k, i, none⟩ = false := World.frozen?_alloc_at cs t k i hk.symm
theorem free_keep {w w1 : World} {b o : Nat} (hb : Below w.heap.size w w1) (hl : b < w.heap.size) (h : w.frozen? ⟨b, o, none⟩ = false) : w1.frozen? ⟨b, o, none⟩ = false := by
  rw [hb.frozen (p := ⟨b, o, none⟩) hl]; exact h

def utF (bo u day : Int) (b c d : Int) : Int × Int := if tgood bo u c d day = true then (1, 0) else (0, 6)
theorem utF_no {bo u day b c d : Int} (h : tgood bo u c d day = false) : utF bo u day b c d = (0, 6) := by unfold utF; rw [if_neg (by rw [h]; simp)]
theorem utF_yes {bo u day b c d : Int} (h : tgood bo u c d day = true) : utF bo u day b c d = (1, 0) := by unfold utF; rw [if_pos h]
attribute [irreducible] utF
def utV (p : Int × Int) (id : ByteArray) (bo u : Int) : Value := .tuple #[.agg #[.string (if p.1 = 1 then id else ⟨#[]⟩), .int .i64 (if p.1 = 1 then bo else 0), .int .i64 (if p.1 = 1 then u + 1 else 0)], .int .i64 p.2]
theorem utV_no (x : Int) (id : ByteArray) (bo u : Int) : utV (0, x) id bo u = .tuple #[.agg #[.string ⟨#[]⟩, .int .i64 0, .int .i64 0], .int .i64 x] := rfl
theorem utV_yes (x : Int) (id : ByteArray) (bo u : Int) : utV (1, x) id bo u = .tuple #[.agg #[.string id, .int .i64 bo, .int .i64 (u + 1)], .int .i64 x] := rfl
attribute [irreducible] utV

set_option maxHeartbeats 1600000 in
theorem s_UseTicket (v : Value) (n : Nat) (a : Nat → ByteArray) (b c d : Nat → Int) (id : ByteArray) (bo u day : Int) (W : World) (hs : Sl W v 4 n (gc a b c d)) (hx : Hid (∀ i, i < n → ((a i).size : Int) ≤ 1048576)) (hid : (id.size : Int) ≤ 1048576) :
    Calls Try.prog 55 #[v, .agg #[.string id, .int .i64 bo, .int .i64 u], .int .i64 day] W fun e W' => e = .returned (utV (ofFare n a b c d (vTk id bo u && inB day 0 36524) id (utF bo u day)) id bo u) ∧ Below W.heap.size W W' := by
  have HA := Lib.hid (fun fine w hs => s_l18Ask v n a b c d fine id w hs hx)
  have HF := Lib.hid (fun w hs => s_find v n a b c d id w hs)
  have KA := kept_alloc (Below.refl W.heap.size W) (.cells #[.string id, .int .i64 bo, .int .i64 u] 69)
  have KB := kept_alloc KA (.cells #[.string ⟨#[]⟩, .int .i64 0, .int .i64 0] 69)
  have HSA := hs.kept KB
  have hn2 : (W.alloc (.cells #[.string id, .int .i64 bo, .int .i64 u] 69)).heap.size = W.heap.size + 1 := by simp
  have q0 : (W.alloc (.cells #[.string id, .int .i64 bo, .int .i64 u] 69)).cell? ⟨W.heap.size, 0, none⟩ = some (.string id) := boxed_at rfl rfl
  have q1 : (W.alloc (.cells #[.string id, .int .i64 bo, .int .i64 u] 69)).cell? ⟨W.heap.size, 1, none⟩ = some (.int .i64 bo) := boxed_at rfl rfl
  have q2 : (W.alloc (.cells #[.string id, .int .i64 bo, .int .i64 u] 69)).cell? ⟨W.heap.size, 2, none⟩ = some (.int .i64 u) := boxed_at rfl rfl
  obtain ⟨WB, hWB⟩ : ∃ WB, WB = ((W.alloc (.cells #[.string id, .int .i64 bo, .int .i64 u] 69)).alloc (.cells #[.string ⟨#[]⟩, .int .i64 0, .int .i64 0] 69)) := ⟨_, rfl⟩
  have Q0 : Hid (WB.cell? ⟨W.heap.size, 0, none⟩ = some (.string id)) := by rw [hWB]; exact cell_keep (kept_alloc (Below.refl _ _) _) q0
  have Q1 : Hid (WB.cell? ⟨W.heap.size, 1, none⟩ = some (.int .i64 bo)) := by rw [hWB]; exact cell_keep (kept_alloc (Below.refl _ _) _) q1
  have Q2 : Hid (WB.cell? ⟨W.heap.size, 2, none⟩ = some (.int .i64 u)) := by rw [hWB]; exact cell_keep (kept_alloc (Below.refl _ _) _) q2
  have Z0 : Hid (WB.cell? ⟨W.heap.size + 1, 0, none⟩ = some (.string ⟨#[]⟩)) := by rw [hWB]; exact boxed_at hn2 rfl
  have Z1 : Hid (WB.cell? ⟨W.heap.size + 1, 1, none⟩ = some (.int .i64 0)) := by rw [hWB]; exact boxed_at hn2 rfl
  have Z2 : Hid (WB.cell? ⟨W.heap.size + 1, 2, none⟩ = some (.int .i64 0)) := by rw [hWB]; exact boxed_at hn2 rfl
  have F0 : Hid (∀ i, WB.frozen? ⟨W.heap.size + 1, i, none⟩ = false) := fun i => by rw [hWB]; exact boxed_free i hn2
  have G0 : Hid (∀ i, WB.frozen? ⟨W.heap.size, i, none⟩ = false) := fun i => by rw [hWB]; exact free_keep (kept_alloc (Below.refl _ _) _) (by simp) (boxed_free i rfl)
  have HL : W.heap.size + 1 < WB.heap.size := by rw [hWB]; simp
  clear q0 q1 q2 hn2
  have HT : Hid (∀ w, Below WB.heap.size WB w → Calls Try.prog 95 #[.pointer (some ⟨W.heap.size, 0, none⟩)] w fun e W' => e = .returned (.bool (vTk id bo u)) ∧ w = W') := fun w hw => s_l18Ticket id bo u _ 0 w hid (cell_keep hw Q0.out) (cell_keep hw Q1.out) (cell_keep hw Q2.out)
  have HTK := @vTk_out id bo u
  have hvt : vTk id bo u = vTk id bo u := rfl
  rw [← hWB] at KB HSA
  generalize vTk id bo u = vt at *
  have k0 : ∀ dd os, (Go.Sort.grow (redrawn WB dd) os).cell? ⟨W.heap.size, 0, none⟩ = some (.string id) := fun dd os => cell_keep (below_regrown WB dd os) Q0.out
  have k1 : ∀ dd os, (Go.Sort.grow (redrawn WB dd) os).cell? ⟨W.heap.size, 1, none⟩ = some (.int .i64 bo) := fun dd os => cell_keep (below_regrown WB dd os) Q1.out
  have k2 : ∀ dd os, (Go.Sort.grow (redrawn WB dd) os).cell? ⟨W.heap.size, 2, none⟩ = some (.int .i64 u) := fun dd os => cell_keep (below_regrown WB dd os) Q2.out
  obtain ⟨hn, ao, cap, rfl, hr⟩ := hs
  have hok : (vt && inB day 0 36524) = (vt && inB day 0 36524) := rfl
  have HWB := Lib.hid hWB
  clear hWB
  rcases fcode_cases n a b c d (vt && inB day 0 36524) id with ⟨x, hc, hx3⟩ | ⟨hc, hfine, h8, k, hk0, hf0, hb0, hcc, hd0⟩
  · have hR := Lib.hid (ofFare_no (f := utF bo u day) hc hx3)
    have HA := Lib.hid (HA.out (vt && inB day 0 36524))
    rw [hc] at HA
    have hx1 : 1 ≤ x := by omega
    have hx0 : ((x : Int) == 0) = false := by simp; omega
    have hx0' : ((x : Int) != 0) = true := by simp; omega
    clear hc hok hr HTK hvt hx3
    rcases tl_cases vt (inB day 0 36524) with ⟨h1, HV⟩ | ⟨h1, h2, HV⟩ | ⟨h1, h2, HV⟩
    all_goals
      rw [HV.out] at HA
      rw [h1] at HT
      go_enter Try.func55, Try.ntmps55
      go_upto_region 1 with (fail)
      rw [← HWB.out]
      refine wp_region_quiet_below (by kernel_rfl) (by kernel_rfl) ?_
      repeat (go_big_quiet_step ((first | (go_at_call 95; exact Go.Proofs.Ytfnollbeeehpnaa.Calls.regrown_same (HT.out _ (below_regrown _ _ _))) | (go_at_call 96; exact Go.Proofs.Ytfnollbeeehpnaa.Calls.regrown_same (s_l02Day _ _)) | (go_at_call 84; exact Calls.regrown_of (HA.out _ (HSA.kept (below_regrown _ _ _)))))))
      refine wpQuiet_nil ?_
      intro w2 hw2
      have hk := below_of_regrown hw2
      clear hw2 k0 k1 k2
      obtain ⟨hc, hf⟩ := bcell hk
      have hz := hk.size
      try simp at hz
      clear hc hf
      have z0 := cell_keep hk Z0.out
      have z1 := cell_keep hk Z1.out
      have z2 := cell_keep hk Z2.out
      have f0 := free_keep hk HL (F0.out 0)
      have f1 := free_keep hk HL (F0.out 1)
      have f2 := free_keep hk HL (F0.out 2)
      go_wp2_with fail
      have hzz := set3_at (v0 := .string ⟨#[]⟩) (v1 := .int .i64 0) (v2 := .int .i64 0) z0 z1 z2
      obtain ⟨y0, y1, y2⟩ := hzz
      refine bodyPost_ret (v := .tuple #[.agg #[.string ⟨#[]⟩, .int .i64 0, .int .i64 0], .int .i64 x]) (by simp [results, go_sem, y0, y1, y2]) rfl ⟨by rw [hR.out, utV_no], kept_set (kept_set (kept_set (kept_trans KB hk) (by simp) _) (by simp) _) (by simp) _⟩
  · have hR := Lib.hid (ofFare_yes (f := utF bo u day) hc hf0)
    have HA := Lib.hid (HA.out (vt && inB day 0 36524))
    rw [hc, hfine] at HA
    rw [hf0] at HF
    simp only [Bool.and_eq_true] at hfine
    obtain ⟨h1, h2⟩ := hfine
    obtain ⟨-, hbo, hu⟩ := HTK h1
    have hday := inB_out h2
    rw [h1] at HT
    clear hc hf0 hok HTK hvt
    rcases hr with h0 | ⟨g, off, rfl, hr⟩
    · omega
    have hr := Lib.hid hr
    have e7 : (k : Int) < n := by omega
    have e8 : (0 : Int) ≤ k := by omega
    have HG : Hid (∀ g1 o1 w, w.cell? ⟨g1, o1 + 2, none⟩ = some (.int .i64 (c k)) → w.cell? ⟨g1, o1 + 3, none⟩ = some (.int .i64 (d k)) → w.cell? ⟨W.heap.size, 0 + 1, none⟩ = some (.int .i64 bo) → w.cell? ⟨W.heap.size, 0 + 2, none⟩ = some (.int .i64 u) → Calls Try.prog 97 #[.pointer (some ⟨g1, o1, none⟩), .pointer (some ⟨W.heap.size, 0, none⟩), .int .i64 day] w fun e W' => e = .returned (.bool (tgood bo u (c k) (d k) day)) ∧ Below w.heap.size w W') := fun g1 o1 w y2 y3 p1 p2 => s_l18Good g1 o1 _ 0 (c k) (d k) bo u day w hbo hday y2 y3 p1 p2
    cases hgd : tgood bo u (c k) (d k) day
    · have hR2 := Lib.hid (hR.out.trans (utF_no (b := b k) hgd))
      rw [hgd] at HG
      clear hR hgd
      go_enter Try.func55, Try.ntmps55
      go_upto_region 1 with (fail)
      rw [← HWB.out]
      refine wp_region_quiet_below (by kernel_rfl) (by kernel_rfl) ?_
      repeat (go_big_quiet_step ((first | (go_at_call 95; exact Go.Proofs.Ytfnollbeeehpnaa.Calls.regrown_same (HT.out _ (below_regrown _ _ _))) | (go_at_call 96; exact Go.Proofs.Ytfnollbeeehpnaa.Calls.regrown_same (s_l02Day _ _)) | (go_at_call 84; exact Calls.regrown_of (HA.out _ (HSA.kept (below_regrown _ _ _)))))))
      refine wpQuiet_nil ?_
      intro w2 hw2
      have hk := below_of_regrown hw2
      clear hw2 k0 k1 k2
      obtain ⟨hc, hf⟩ := bcell hk
      have hz := hk.size
      try simp at hz
      clear hc hf
      have p0 := cell_keep hk Q0.out
      have p1 := cell_keep hk Q1.out
      have p2 := cell_keep hk Q2.out
      obtain ⟨x0, x1, x2, x3⟩ := gccells (hr.out.kept (kept_trans KB hk)) hk0
      go_wp2_with (first | (go_at_call 85; refine (HF.out _ (HSA.kept hk)).mono ?_; rintro e w' ⟨rfl, rfl⟩) | (go_at_call 97; refine (HG.out _ _ _ x2 x3 p1 p2).mono ?_; rintro e w4 ⟨rfl, hb4⟩; have hk4 := kept_trans hk hb4; have z0 := cell_keep hk4 Z0.out; have z1 := cell_keep hk4 Z1.out; have z2 := cell_keep hk4 Z2.out; have f0 := free_keep hk4 HL (F0.out 0); have f1 := free_keep hk4 HL (F0.out 1); have f2 := free_keep hk4 HL (F0.out 2)))
      obtain ⟨y0, y1, y2⟩ := set3_at (v0 := .string ⟨#[]⟩) (v1 := .int .i64 0) (v2 := .int .i64 0) z0 z1 z2
      refine bodyPost_ret (v := .tuple #[.agg #[.string ⟨#[]⟩, .int .i64 0, .int .i64 0], .int .i64 6]) (by simp [results, go_sem, y0, y1, y2]) rfl ⟨by rw [hR2.out, utV_no], kept_set (kept_set (kept_set (kept_trans KB hk4) (by simp) _) (by simp) _) (by simp) _⟩
    · have hR2 := Lib.hid (hR.out.trans (utF_yes (b := b k) hgd))
      rw [hgd] at HG
      clear hR hgd
      have e1 : IntKind.i64.wrap (u + 1) = u + 1 := IntWalk.i64_in _ (by omega)
      go_enter Try.func55, Try.ntmps55
      go_upto_region 1 with (fail)
      rw [← HWB.out]
      refine wp_region_quiet_below (by kernel_rfl) (by kernel_rfl) ?_
      repeat (go_big_quiet_step ((first | (go_at_call 95; exact Go.Proofs.Ytfnollbeeehpnaa.Calls.regrown_same (HT.out _ (below_regrown _ _ _))) | (go_at_call 96; exact Go.Proofs.Ytfnollbeeehpnaa.Calls.regrown_same (s_l02Day _ _)) | (go_at_call 84; exact Calls.regrown_of (HA.out _ (HSA.kept (below_regrown _ _ _)))))))
      refine wpQuiet_nil ?_
      intro w2 hw2
      have hk := below_of_regrown hw2
      clear hw2 k0 k1 k2
      obtain ⟨hc, hf⟩ := bcell hk
      have hz := hk.size
      try simp at hz
      clear hc hf
      have p0 := cell_keep hk Q0.out
      have p1 := cell_keep hk Q1.out
      have p2 := cell_keep hk Q2.out
      obtain ⟨x0, x1, x2, x3⟩ := gccells (hr.out.kept (kept_trans KB hk)) hk0
      go_wp2_with (first | (go_at_call 85; refine (HF.out _ (HSA.kept hk)).mono ?_; rintro e w' ⟨rfl, rfl⟩) | (go_at_call 97; refine (HG.out _ _ _ x2 x3 p1 p2).mono ?_; rintro e w4 ⟨rfl, hb4⟩; have hk4 := kept_trans hk hb4; have z0 := cell_keep hk4 Z0.out; have z1 := cell_keep hk4 Z1.out; have z2 := cell_keep hk4 Z2.out; have f0 := free_keep hk4 HL (F0.out 0); have f1 := free_keep hk4 HL (F0.out 1); have f2 := free_keep hk4 HL (F0.out 2); have r0 := cell_keep hk4 Q0.out; have r1 := cell_keep hk4 Q1.out; have r2 := cell_keep hk4 Q2.out; have fr := free_keep hk4 (Nat.lt_of_succ_lt HL) (G0.out 2)))
      have n1 : (⟨W.heap.size, 2, none⟩ : Addr).block ≠ W.heap.size + 1 := by simp
      obtain ⟨y0, y1, y2⟩ := set3_at (v0 := .string id) (v1 := .int .i64 bo) (v2 := .int .i64 (u + 1)) ((World.cell?_setCell_far w4 ⟨W.heap.size, 2, none⟩ ⟨W.heap.size + 1, 0, none⟩ (.int .i64 (u + 1)) n1).trans z0) ((World.cell?_setCell_far w4 ⟨W.heap.size, 2, none⟩ ⟨W.heap.size + 1, 1, none⟩ (.int .i64 (u + 1)) n1).trans z1) ((World.cell?_setCell_far w4 ⟨W.heap.size, 2, none⟩ ⟨W.heap.size + 1, 2, none⟩ (.int .i64 (u + 1)) n1).trans z2)
      refine bodyPost_ret (v := .tuple #[.agg #[.string id, .int .i64 bo, .int .i64 (u + 1)], .int .i64 0]) (by simp [results, go_sem, y0, y1, y2]) rfl ⟨by rw [hR2.out, utV_yes], kept_set (kept_set (kept_set (kept_set (kept_trans KB hk4) (by simp) _) (by simp) _) (by simp) _) (by simp) _⟩

end Go.Proofs.Ytfnollbeeehpnaa
