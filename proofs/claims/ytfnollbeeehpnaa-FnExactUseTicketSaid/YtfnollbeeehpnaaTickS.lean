/- How many rides a ticket has left: the meaning, and the reference. -/
import Derived.Test.YtfnollbeeehpnaaTick
namespace Go.Proofs.Ytfnollbeeehpnaa
open Go.RowKit Go.Deep
set_option linter.unusedVariables false
set_option maxRecDepth 100000

def tlF (bo u day : Int) (b c d : Int) : Int × Int := if tgood bo u c d day = true then (c - u, 0) else (0, 0)
theorem tlF_no {bo u day b c d : Int} (h : tgood bo u c d day = false) : tlF bo u day b c d = (0, 0) := by unfold tlF; rw [if_neg (by rw [h]; simp)]
theorem tlF_yes {bo u day b c d : Int} (h : tgood bo u c d day = true) : tlF bo u day b c d = (c - u, 0) := by unfold tlF; rw [if_pos h]
attribute [irreducible] tlF
theorem tl_cases (x y : Bool) : (x = false ∧ Hid ((x && y) = false)) ∨ (x = true ∧ y = false ∧ Hid ((x && y) = false)) ∨ (x = true ∧ y = true ∧ Hid ((x && y) = true)) := by
  cases x
  · exact .inl ⟨rfl, rfl⟩
  · cases y
    · exact .inr (.inl ⟨rfl, rfl, rfl⟩)
    · exact .inr (.inr ⟨rfl, rfl, rfl⟩)

set_option maxHeartbeats 1600000 in
theorem s_TicketLeft (v : Value) (n : Nat) (a : Nat → ByteArray) (b c d : Nat → Int) (id : ByteArray) (bo u day : Int) (W : World) (hs : Sl W v 4 n (gc a b c d)) (hx : Hid (∀ i, i < n → ((a i).size : Int) ≤ 1048576)) (hid : (id.size : Int) ≤ 1048576) :
    Calls Try.prog 52 #[v, .agg #[.string id, .int .i64 bo, .int .i64 u], .int .i64 day] W fun e W' => e = .returned (.tuple #[.int .i64 (ofFare n a b c d (vTk id bo u && inB day 0 36524) id (tlF bo u day)).1, .int .i64 (ofFare n a b c d (vTk id bo u && inB day 0 36524) id (tlF bo u day)).2]) ∧ Below W.heap.size W W' := by
  have HA := Lib.hid (fun fine w hs => s_l18Ask v n a b c d fine id w hs hx)
  have HF := Lib.hid (fun w hs => s_find v n a b c d id w hs)
  have KB := kept_alloc (Below.refl W.heap.size W) (.cells #[.string id, .int .i64 bo, .int .i64 u] 69)
  have HSA := hs.kept KB
  have Q0 : Hid ((W.alloc (.cells #[.string id, .int .i64 bo, .int .i64 u] 69)).cell? ⟨W.heap.size, 0, none⟩ = some (.string id)) := boxed_at rfl rfl
  have Q1 : Hid ((W.alloc (.cells #[.string id, .int .i64 bo, .int .i64 u] 69)).cell? ⟨W.heap.size, 1, none⟩ = some (.int .i64 bo)) := boxed_at rfl rfl
  have Q2 : Hid ((W.alloc (.cells #[.string id, .int .i64 bo, .int .i64 u] 69)).cell? ⟨W.heap.size, 2, none⟩ = some (.int .i64 u)) := boxed_at rfl rfl
  have HT : Hid (∀ w, Below (W.alloc (.cells #[.string id, .int .i64 bo, .int .i64 u] 69)).heap.size (W.alloc (.cells #[.string id, .int .i64 bo, .int .i64 u] 69)) w → Calls Try.prog 95 #[.pointer (some ⟨W.heap.size, 0, none⟩)] w fun e W' => e = .returned (.bool (vTk id bo u)) ∧ w = W') := fun w hw => s_l18Ticket id bo u _ 0 w hid (cell_keep hw Q0.out) (cell_keep hw Q1.out) (cell_keep hw Q2.out)
  have HTK := @vTk_out id bo u
  have hvt : vTk id bo u = vTk id bo u := rfl
  generalize vTk id bo u = vt at *
  have k0 : ∀ dd os, (Go.Sort.grow (redrawn (W.alloc (.cells #[.string id, .int .i64 bo, .int .i64 u] 69)) dd) os).cell? ⟨W.heap.size, 0, none⟩ = some (.string id) := fun dd os => boxed 0 _ rfl dd os
  have k1 : ∀ dd os, (Go.Sort.grow (redrawn (W.alloc (.cells #[.string id, .int .i64 bo, .int .i64 u] 69)) dd) os).cell? ⟨W.heap.size, 1, none⟩ = some (.int .i64 bo) := fun dd os => boxed 1 _ rfl dd os
  have k2 : ∀ dd os, (Go.Sort.grow (redrawn (W.alloc (.cells #[.string id, .int .i64 bo, .int .i64 u] 69)) dd) os).cell? ⟨W.heap.size, 2, none⟩ = some (.int .i64 u) := fun dd os => boxed 2 _ rfl dd os
  obtain ⟨hn, ao, cap, rfl, hr⟩ := hs
  have hok : (vt && inB day 0 36524) = (vt && inB day 0 36524) := rfl
  rcases fcode_cases n a b c d (vt && inB day 0 36524) id with ⟨x, hc, hx3⟩ | ⟨hc, hfine, h8, k, hk0, hf0, hb0, hcc, hd0⟩
  · have hR := Lib.hid (ofFare_no (f := tlF bo u day) hc hx3)
    have HA := Lib.hid (HA.out (vt && inB day 0 36524))
    rw [hc] at HA
    clear hc hok hr HTK hvt
    rcases tl_cases vt (inB day 0 36524) with ⟨h1, HV⟩ | ⟨h1, h2, HV⟩ | ⟨h1, h2, HV⟩
    all_goals
      rw [HV.out] at HA
      rw [h1] at HT
      rcases hx3 with rfl | rfl | rfl
      all_goals
        go_enter Try.func52, Try.ntmps52
        go_wp2_with fail
        refine wp_region_quiet_below (by kernel_rfl) (by kernel_rfl) ?_
        repeat (go_big_quiet_step ((first | (go_at_call 95; exact Go.Proofs.Ytfnollbeeehpnaa.Calls.regrown_same (HT.out _ (below_regrown _ _ _))) | (go_at_call 96; exact Go.Proofs.Ytfnollbeeehpnaa.Calls.regrown_same (s_l02Day _ _)) | (go_at_call 84; exact Calls.regrown_of (HA.out _ (HSA.kept (below_regrown _ _ _)))))))
        refine wpQuiet_nil ?_
        intro w2 hw2
        have hk := below_of_regrown hw2
        clear hw2 k0 k1 k2
        obtain ⟨hc, hf⟩ := bcell hk
        have hz := hk.size
        try simp at hz
        go_wp2_with fail
        go_ret2
        exact ⟨by rw [hR.out]; rfl, kept_trans KB hk⟩
  · have hR := Lib.hid (ofFare_yes (f := tlF bo u day) hc hf0)
    have HA := Lib.hid (HA.out (vt && inB day 0 36524))
    rw [hc, hfine] at HA
    rw [hf0] at HF
    simp only [Bool.and_eq_true] at hfine
    obtain ⟨h1, h2⟩ := hfine
    obtain ⟨-, hbo, hu⟩ := HTK h1
    have hday := inB_out h2
    rw [h1] at HT
    clear hc hf0 hok HTK hvt
    rcases hr with h0 | ⟨g, off, rfl, hr⟩
    · omega
    have hr := Lib.hid hr
    have e7 : (k : Int) < n := by omega
    have e8 : (0 : Int) ≤ k := by omega
    have HG : Hid (∀ g1 o1 w, w.cell? ⟨g1, o1 + 2, none⟩ = some (.int .i64 (c k)) → w.cell? ⟨g1, o1 + 3, none⟩ = some (.int .i64 (d k)) → w.cell? ⟨W.heap.size, 0 + 1, none⟩ = some (.int .i64 bo) → w.cell? ⟨W.heap.size, 0 + 2, none⟩ = some (.int .i64 u) → Calls Try.prog 97 #[.pointer (some ⟨g1, o1, none⟩), .pointer (some ⟨W.heap.size, 0, none⟩), .int .i64 day] w fun e W' => e = .returned (.bool (tgood bo u (c k) (d k) day)) ∧ Below w.heap.size w W') := fun g1 o1 w y2 y3 p1 p2 => s_l18Good g1 o1 _ 0 (c k) (d k) bo u day w hbo hday y2 y3 p1 p2
    cases hgd : tgood bo u (c k) (d k) day
    · have hR2 := Lib.hid (hR.out.trans (tlF_no (b := b k) hgd))
      rw [hgd] at HG
      clear hR hgd
      go_enter Try.func52, Try.ntmps52
      go_wp2_with fail
      refine wp_region_quiet_below (by kernel_rfl) (by kernel_rfl) ?_
      repeat (go_big_quiet_step ((first | (go_at_call 95; exact Go.Proofs.Ytfnollbeeehpnaa.Calls.regrown_same (HT.out _ (below_regrown _ _ _))) | (go_at_call 96; exact Go.Proofs.Ytfnollbeeehpnaa.Calls.regrown_same (s_l02Day _ _)) | (go_at_call 84; exact Calls.regrown_of (HA.out _ (HSA.kept (below_regrown _ _ _)))))))
      refine wpQuiet_nil ?_
      intro w2 hw2
      have hk := below_of_regrown hw2
      clear hw2 k0 k1 k2
      obtain ⟨hc, hf⟩ := bcell hk
      have hz := hk.size
      try simp at hz
      have p0 := cell_keep hk Q0.out
      have p1 := cell_keep hk Q1.out
      have p2 := cell_keep hk Q2.out
      obtain ⟨x0, x1, x2, x3⟩ := gccells (hr.out.kept (kept_trans KB hk)) hk0
      go_wp2_with (first | (go_at_call 85; refine (HF.out _ (HSA.kept hk)).mono ?_; rintro e w' ⟨rfl, rfl⟩) | (go_at_call 97; refine (HG.out _ _ _ x2 x3 p1 p2).mono ?_; rintro e w4 ⟨rfl, hb4⟩))
      go_ret2
      exact ⟨by rw [hR2.out]; rfl, kept_trans (kept_trans KB hk) hb4⟩
    · have hR2 := Lib.hid (hR.out.trans (tlF_yes (b := b k) hgd))
      rw [hgd] at HG
      clear hR hgd
      have e1 : IntKind.i64.wrap (c k - u) = c k - u := IntWalk.i64_in _ (by omega)
      go_enter Try.func52, Try.ntmps52
      go_wp2_with fail
      refine wp_region_quiet_below (by kernel_rfl) (by kernel_rfl) ?_
      repeat (go_big_quiet_step ((first | (go_at_call 95; exact Go.Proofs.Ytfnollbeeehpnaa.Calls.regrown_same (HT.out _ (below_regrown _ _ _))) | (go_at_call 96; exact Go.Proofs.Ytfnollbeeehpnaa.Calls.regrown_same (s_l02Day _ _)) | (go_at_call 84; exact Calls.regrown_of (HA.out _ (HSA.kept (below_regrown _ _ _)))))))
      refine wpQuiet_nil ?_
      intro w2 hw2
      have hk := below_of_regrown hw2
      clear hw2 k0 k1 k2
      obtain ⟨hc, hf⟩ := bcell hk
      have hz := hk.size
      try simp at hz
      have p0 := cell_keep hk Q0.out
      have p1 := cell_keep hk Q1.out
      have p2 := cell_keep hk Q2.out
      obtain ⟨x0, x1, x2, x3⟩ := gccells (hr.out.kept (kept_trans KB hk)) hk0
      go_wp2_with (first | (go_at_call 85; refine (HF.out _ (HSA.kept hk)).mono ?_; rintro e w' ⟨rfl, rfl⟩) | (go_at_call 97; refine (HG.out _ _ _ x2 x3 p1 p2).mono ?_; rintro e w4 ⟨rfl, hb4⟩; have z2 := cell_keep hb4 x2; have p2' := cell_keep hb4 p2))
      go_quiet (fail)
      clear e1
      go_wp2_with fail
      go_ret2
      exact ⟨by rw [hR2.out]; rfl, kept_drewN (kept_trans (kept_trans KB hk) hb4) _⟩

end Go.Proofs.Ytfnollbeeehpnaa
