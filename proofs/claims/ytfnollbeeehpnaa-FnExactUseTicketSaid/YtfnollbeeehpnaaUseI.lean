/- The use of a ticket: the program, and the law. -/
import Derived.Test.YtfnollbeeehpnaaUse
import Derived.Test.YtfnollbeeehpnaaTickI
import Derived.Deep.DeepCutAuto
namespace Go.Proofs.Ytfnollbeeehpnaa
open Go.RowKit Go.Deep
set_option linter.unusedVariables false
set_option maxRecDepth 100000

set_option maxHeartbeats 6400000 in
theorem i_UseTicket (v : Value) (n : Nat) (a : Nat → ByteArray) (b c d : Nat → Int) (id : ByteArray) (bo u day : Int) (W : World) (hs : Sl W v 4 n (gc a b c d)) (hx : Hid (∀ i, i < n → ((a i).size : Int) ≤ 1048576)) (hid : (id.size : Int) ≤ 1048576) :
    Calls Try.prog 56 #[v, .agg #[.string id, .int .i64 bo, .int .i64 u], .int .i64 day] W fun e W' => e = .returned (utV (ofFare n a b c d (vTk id bo u && inB day 0 36524) id (utF bo u day)) id bo u) ∧ Below W.heap.size W W' := by
  have HA := Lib.hid (fun fine w q h h2 => i_fared v n a b c d fine q 1 (fun _ => id) w h hx h2)
  have KA := kept_alloc (Below.refl W.heap.size W) (.cells #[.string id, .int .i64 bo, .int .i64 u] 69)
  have KB := kept_alloc KA (.cells #[.string ⟨#[]⟩, .int .i64 0, .int .i64 0] 69)
  have HSA := hs.kept KB
  have hn2 : (W.alloc (.cells #[.string id, .int .i64 bo, .int .i64 u] 69)).heap.size = W.heap.size + 1 := by simp
  have q0 : (W.alloc (.cells #[.string id, .int .i64 bo, .int .i64 u] 69)).cell? ⟨W.heap.size, 0, none⟩ = some (.string id) := boxed_at rfl rfl
  have q1 : (W.alloc (.cells #[.string id, .int .i64 bo, .int .i64 u] 69)).cell? ⟨W.heap.size, 1, none⟩ = some (.int .i64 bo) := boxed_at rfl rfl
  have q2 : (W.alloc (.cells #[.string id, .int .i64 bo, .int .i64 u] 69)).cell? ⟨W.heap.size, 2, none⟩ = some (.int .i64 u) := boxed_at rfl rfl
  obtain ⟨WB, hWB⟩ : ∃ WB, WB = ((W.alloc (.cells #[.string id, .int .i64 bo, .int .i64 u] 69)).alloc (.cells #[.string ⟨#[]⟩, .int .i64 0, .int .i64 0] 69)) := ⟨_, rfl⟩
  have Q0 : Hid (WB.cell? ⟨W.heap.size, 0, none⟩ = some (.string id)) := by rw [hWB]; exact cell_keep (kept_alloc (Below.refl _ _) _) q0
  have Q1 : Hid (WB.cell? ⟨W.heap.size, 1, none⟩ = some (.int .i64 bo)) := by rw [hWB]; exact cell_keep (kept_alloc (Below.refl _ _) _) q1
  have Q2 : Hid (WB.cell? ⟨W.heap.size, 2, none⟩ = some (.int .i64 u)) := by rw [hWB]; exact cell_keep (kept_alloc (Below.refl _ _) _) q2
  have Z0 : Hid (WB.cell? ⟨W.heap.size + 1, 0, none⟩ = some (.string ⟨#[]⟩)) := by rw [hWB]; exact boxed_at hn2 rfl
  have Z1 : Hid (WB.cell? ⟨W.heap.size + 1, 1, none⟩ = some (.int .i64 0)) := by rw [hWB]; exact boxed_at hn2 rfl
  have Z2 : Hid (WB.cell? ⟨W.heap.size + 1, 2, none⟩ = some (.int .i64 0)) := by rw [hWB]; exact boxed_at hn2 rfl
  have F0 : Hid (∀ i, WB.frozen? ⟨W.heap.size + 1, i, none⟩ = false) := fun i => by rw [hWB]; exact boxed_free i hn2
  have G0 : Hid (∀ i, WB.frozen? ⟨W.heap.size, i, none⟩ = false) := fun i => by rw [hWB]; exact free_keep (kept_alloc (Below.refl _ _) _) (by simp) (boxed_free i rfl)
  have HL : W.heap.size + 1 < WB.heap.size := by rw [hWB]; simp
  clear q0 q1 q2 hn2
  have HT := Lib.hid (fun w => i_isTicket id bo u w hid)
  have HTK := @vTk_out id bo u
  rw [← hWB] at KB HSA
  generalize vTk id bo u = vt at *
  obtain ⟨hn, ao, cap, rfl, hr⟩ := hs
  clear hr
  have HWB := Lib.hid hWB
  clear hWB
  obtain ⟨x, hcx⟩ : ∃ x, fcode n a b c d (vt && inB day 0 36524) 1 (fun _ => id) = x := ⟨_, rfl⟩
  have HX : Hid ((∃ k : Nat, x = 0 ∧ (vt && inB day 0 36524) = true ∧ k < n ∧ fidx n a id = k ∧ Hid (0 ≤ b k ∧ b k ≤ 100000) ∧ Hid (1 ≤ c k ∧ c k ≤ 1000) ∧ Hid (1 ≤ d k ∧ d k ≤ 400)) ∨ (1 ≤ x ∧ (x = 1 ∨ x = 2 ∨ x = 3))) := by
    rcases fcode_cases n a b c d (vt && inB day 0 36524) id with ⟨x', hc, hx3⟩ | ⟨hc, hfine, h8, k, hk0, hf0, hb0, hcc, hd0⟩
    · exact .inr (by rw [hcx] at hc; subst hc; exact ⟨by omega, hx3⟩)
    · exact .inl ⟨k, by rw [← hcx]; exact hc, hfine, hk0, hf0, hb0, hcc, hd0⟩
  have HA : Hid (∀ w q, Sl w (.slice ao n cap) 4 n (gc a b c d) → Sl w q 1 1 (sc fun _ => id) → Calls Try.prog 86 #[.slice ao n cap, .bool (vt && inB day 0 36524), q] w fun e W' => e = .returned (.int .i64 x) ∧ Below w.heap.size w W') := fun w q h h2 => by
    have := HA.out (vt && inB day 0 36524) w q h h2
    rw [hcx] at this
    exact this
  have HC := Lib.hid hcx
  clear hcx
  have q0 := Q0.out
  have q1 := Q1.out
  have q2 := Q2.out
  go_enter Try.func56, Try.ntmps56
  go_upto_region 1 with (fail)
  rw [← HWB.out]
  go_cut [8] (fun e wx => e = .int .i64 x ∧ Below WB.heap.size WB wx)
  case first =>
    rcases tl_cases vt (inB day 0 36524) with ⟨h1, HV⟩ | ⟨h1, h2, HV⟩ | ⟨h1, h2, HV⟩
    · rw [HV.out] at HA
      rw [h1] at HT
      refine wp_region_held_drew (S := (fun w' => w'.cell? ⟨W.heap.size, 0, none⟩ = some (.string id) ∧ w'.cell? ⟨W.heap.size, 1, none⟩ = some (.int .i64 bo) ∧ w'.cell? ⟨W.heap.size, 2, none⟩ = some (.int .i64 u))) (by kernel_rfl) ?_ (fun hHeld => ?_)
      · ((try dsimp only); (repeat' apply And.intro) <;> (first | (go_keep; done) | (apply cell_kept; assumption; repeat (first | assumption | exact Below.refl _ _ | refine kept_drew ?_ | refine kept_alloc ?_ _ | refine kept_trans ?_ (by assumption)))))
      refine wpAnyH_take (i := 0) (v := ?vvx1) (by simp only [List.getElem?_toArray, List.getElem?_cons_zero]; exact rfl) (by kernel_rfl) (by kernel_rfl) (by kernel_rfl) ?hqx1 (Or.inl ⟨by rfl, ?hyx1⟩) (by assumption) ?restx1
      case hyx1 => (intro w hSw; (try dsimp only at hSw); go_simp; try (with_reducible rfl))
      case hqx1 => exact fun _ _ _ h => h
      try simp only [Act.put, List.setIfInBounds_toArray, List.set_cons_zero, List.set_cons_succ]
      refine wpAnyH_take (i := 1) (v := ?vvx2) (by simp only [List.getElem?_toArray, List.getElem?_cons_zero, List.getElem?_cons_succ]; exact rfl) (by kernel_rfl) (by kernel_rfl) (by kernel_rfl) ?hqx2 (Or.inl ⟨by rfl, ?hyx2⟩) (by assumption) ?restx2
      case hyx2 => (intro w hSw; (try dsimp only at hSw); go_simp; try (with_reducible rfl))
      case hqx2 => exact fun _ _ _ h => h
      try simp only [Act.put, List.setIfInBounds_toArray, List.set_cons_zero, List.set_cons_succ]
      refine wpAnyH_take (i := 7) (v := ?vvx3) (by simp only [List.getElem?_toArray, List.getElem?_cons_zero, List.getElem?_cons_succ]; exact rfl) (by kernel_rfl) (by kernel_rfl) (by kernel_rfl) ?hqx3 (Or.inl ⟨by rfl, ?hyx3⟩) (by assumption) ?restx3
      case hyx3 => (intro w hSw; (try dsimp only at hSw); go_simp; try (with_reducible rfl))
      case hqx3 => exact fun _ _ _ h => h
      try simp only [Act.put, List.setIfInBounds_toArray, List.set_cons_zero, List.set_cons_succ]
      refine wpAnyH_take (i := 8) (v := ?vvx4) (by simp only [List.getElem?_toArray, List.getElem?_cons_zero, List.getElem?_cons_succ]; exact rfl) (by kernel_rfl) (by kernel_rfl) (by kernel_rfl) ?hqx4 (Or.inl ⟨by rfl, ?hyx4⟩) (by assumption) ?restx4
      case hyx4 => (intro w hSw; (try dsimp only at hSw); go_simp; try (with_reducible rfl))
      case hqx4 => exact fun _ _ _ h => h
      try simp only [Act.put, List.setIfInBounds_toArray, List.set_cons_zero, List.set_cons_succ]
      refine wpAnyH_ready (rs := [2, 9]) (by kernel_rfl) (by simp) ?_
      refine AllReadyH.cons (by simp only [List.getElem?_toArray, List.getElem?_cons_zero, List.getElem?_cons_succ]; exact rfl) (fun K hK => ?_) (AllReadyH.cons (by simp only [List.getElem?_toArray, List.getElem?_cons_zero, List.getElem?_cons_succ]; exact rfl) (fun K hK => ?_) AllReadyH.nil)
      · go_simp
        (first | (go_at_call 98; refine (HT.out _).mono ?_; rintro e w1 ⟨rfl, hb1⟩) | (go_at_call 99; refine (i_isDay _ _).mono ?_; rintro e w' ⟨rfl, rfl⟩) | (go_at_call 86; refine (HA.out _ _ (HSA.kept (by repeat (first | assumption | exact Below.refl _ _ | refine kept_drew ?_ | refine kept_alloc ?_ _ | refine kept_trans ?_ (by assumption)))) (by first | exact Sl.one_at (by first | rfl | simp) | exact (Sl.one_at (by first | rfl | simp)).kept (by repeat (first | assumption | exact Below.refl _ _ | refine kept_drew ?_ | refine kept_alloc ?_ _ | refine kept_trans ?_ (by assumption))))).mono ?_; rintro e w2 ⟨rfl, hb2⟩))
        go_wp2_with fail
        refine hK.out _ _ ?_ (fun hHeld => ?_)
        · ((try dsimp only); (repeat' apply And.intro) <;> (first | (go_keep; done) | (apply cell_kept; assumption; repeat (first | assumption | exact Below.refl _ _ | refine kept_drew ?_ | refine kept_alloc ?_ _ | refine kept_trans ?_ (by assumption)))))
        clear hK K
        try simp only [Act.put, List.setIfInBounds_toArray, List.set_cons_zero, List.set_cons_succ]
        refine wpAnyH_take (i := 3) (v := ?vvx5) (by simp only [List.getElem?_toArray, List.getElem?_cons_zero, List.getElem?_cons_succ]; exact rfl) (by kernel_rfl) (by kernel_rfl) (by kernel_rfl) ?hqx5 (Or.inl ⟨by rfl, ?hyx5⟩) (by assumption) ?restx5
        case hyx5 => (intro w hSw; (try dsimp only at hSw); go_simp; try (with_reducible rfl))
        case hqx5 => exact fun _ _ _ h => h
        try simp only [Act.put, List.setIfInBounds_toArray, List.set_cons_zero, List.set_cons_succ]
        refine wpAnyH_take (i := 4) (v := undef) (by simp only [List.getElem?_toArray, List.getElem?_cons_zero, List.getElem?_cons_succ]; exact rfl) (by kernel_rfl) (by kernel_rfl) (by kernel_rfl) ?hqx6 (Or.inr ⟨by rfl, rfl⟩) (by assumption) ?restx6
        case hqx6 => exact fun _ _ _ h => h
        try simp only [Act.put, List.setIfInBounds_toArray, List.set_cons_zero, List.set_cons_succ]
        refine wpAnyH_take (i := 5) (v := undef) (by simp only [List.getElem?_toArray, List.getElem?_cons_zero, List.getElem?_cons_succ]; exact rfl) (by kernel_rfl) (by kernel_rfl) (by kernel_rfl) ?hqx7 (Or.inr ⟨by rfl, rfl⟩) (by assumption) ?restx7
        case hqx7 => exact fun _ _ _ h => h
        try simp only [Act.put, List.setIfInBounds_toArray, List.set_cons_zero, List.set_cons_succ]
        refine wpAnyH_take (i := 6) (v := ?vvx8) (by simp only [List.getElem?_toArray, List.getElem?_cons_zero, List.getElem?_cons_succ]; exact rfl) (by kernel_rfl) (by kernel_rfl) (by kernel_rfl) ?hqx8 (Or.inl ⟨by rfl, ?hyx8⟩) (by assumption) ?restx8
        case hyx8 => (intro w hSw; (try dsimp only at hSw); go_simp; try (with_reducible rfl))
        case hqx8 => exact fun _ _ _ h => h
        try simp only [Act.put, List.setIfInBounds_toArray, List.set_cons_zero, List.set_cons_succ]
        refine wpAnyH_ready (rs := [9]) (by kernel_rfl) (by simp) ?_
        refine AllReadyH.cons (by simp only [List.getElem?_toArray, List.getElem?_cons_zero, List.getElem?_cons_succ]; exact rfl) (fun K hK => ?_) AllReadyH.nil
        go_simp
        refine hK.out _ _ ?_ (fun hHeld => ?_)
        · ((try dsimp only); (repeat' apply And.intro) <;> (first | (go_keep; done) | (apply cell_kept; assumption; repeat (first | assumption | exact Below.refl _ _ | refine kept_drew ?_ | refine kept_alloc ?_ _ | refine kept_trans ?_ (by assumption)))))
        clear hK K
        try simp only [Act.put, List.setIfInBounds_toArray, List.set_cons_zero, List.set_cons_succ]
        refine wpAnyH_ready (rs := [10]) (by kernel_rfl) (by simp) ?_
        refine AllReadyH.cons (by simp only [List.getElem?_toArray, List.getElem?_cons_zero, List.getElem?_cons_succ]; exact rfl) (fun K hK => ?_) AllReadyH.nil
        go_simp
        (first | (go_at_call 98; refine (HT.out _).mono ?_; rintro e w1 ⟨rfl, hb1⟩) | (go_at_call 99; refine (i_isDay _ _).mono ?_; rintro e w' ⟨rfl, rfl⟩) | (go_at_call 86; refine (HA.out _ _ (HSA.kept (by repeat (first | assumption | exact Below.refl _ _ | refine kept_drew ?_ | refine kept_alloc ?_ _ | refine kept_trans ?_ (by assumption)))) (by first | exact Sl.one_at (by first | rfl | simp) | exact (Sl.one_at (by first | rfl | simp)).kept (by repeat (first | assumption | exact Below.refl _ _ | refine kept_drew ?_ | refine kept_alloc ?_ _ | refine kept_trans ?_ (by assumption))))).mono ?_; rintro e w2 ⟨rfl, hb2⟩))
        go_wp2_with fail
        refine hK.out _ _ ?_ (fun hHeld => ?_)
        · ((try dsimp only); (repeat' apply And.intro) <;> (first | (go_keep; done) | (apply cell_kept; assumption; repeat (first | assumption | exact Below.refl _ _ | refine kept_drew ?_ | refine kept_alloc ?_ _ | refine kept_trans ?_ (by assumption)))))
        clear hK K
        try simp only [Act.put, List.setIfInBounds_toArray, List.set_cons_zero, List.set_cons_succ]
        refine wpAnyH_take (i := 11) (v := ?vvx9) (by simp only [List.getElem?_toArray, List.getElem?_cons_zero, List.getElem?_cons_succ]; exact rfl) (by kernel_rfl) (by kernel_rfl) (by kernel_rfl) ?hqx9 (Or.inl ⟨by rfl, ?hyx9⟩) (by assumption) ?restx9
        case hyx9 => (intro w hSw; (try dsimp only at hSw); go_simp; try (with_reducible rfl))
        case hqx9 => exact fun _ _ _ h => h
        try simp only [Act.put, List.setIfInBounds_toArray, List.set_cons_zero, List.set_cons_succ]
        refine wpAnyH_done (by kernel_rfl) ?_ _
        go_wp2_with fail
        go_meet
        exact ⟨rfl, (by repeat (first | assumption | exact Below.refl _ _ | refine kept_drew ?_ | refine kept_alloc ?_ _ | refine kept_trans ?_ (by assumption)))⟩
      · go_simp
        refine hK.out _ _ ?_ (fun hHeld => ?_)
        · ((try dsimp only); (repeat' apply And.intro) <;> (first | (go_keep; done) | (apply cell_kept; assumption; repeat (first | assumption | exact Below.refl _ _ | refine kept_drew ?_ | refine kept_alloc ?_ _ | refine kept_trans ?_ (by assumption)))))
        clear hK K
        try simp only [Act.put, List.setIfInBounds_toArray, List.set_cons_zero, List.set_cons_succ]
        refine wpAnyH_ready (rs := [2]) (by kernel_rfl) (by simp) ?_
        refine AllReadyH.cons (by simp only [List.getElem?_toArray, List.getElem?_cons_zero, List.getElem?_cons_succ]; exact rfl) (fun K hK => ?_) AllReadyH.nil
        go_simp
        (first | (go_at_call 98; refine (HT.out _).mono ?_; rintro e w1 ⟨rfl, hb1⟩) | (go_at_call 99; refine (i_isDay _ _).mono ?_; rintro e w' ⟨rfl, rfl⟩) | (go_at_call 86; refine (HA.out _ _ (HSA.kept (by repeat (first | assumption | exact Below.refl _ _ | refine kept_drew ?_ | refine kept_alloc ?_ _ | refine kept_trans ?_ (by assumption)))) (by first | exact Sl.one_at (by first | rfl | simp) | exact (Sl.one_at (by first | rfl | simp)).kept (by repeat (first | assumption | exact Below.refl _ _ | refine kept_drew ?_ | refine kept_alloc ?_ _ | refine kept_trans ?_ (by assumption))))).mono ?_; rintro e w2 ⟨rfl, hb2⟩))
        go_wp2_with fail
        refine hK.out _ _ ?_ (fun hHeld => ?_)
        · ((try dsimp only); (repeat' apply And.intro) <;> (first | (go_keep; done) | (apply cell_kept; assumption; repeat (first | assumption | exact Below.refl _ _ | refine kept_drew ?_ | refine kept_alloc ?_ _ | refine kept_trans ?_ (by assumption)))))
        clear hK K
        try simp only [Act.put, List.setIfInBounds_toArray, List.set_cons_zero, List.set_cons_succ]
        refine wpAnyH_take (i := 3) (v := ?vvx10) (by simp only [List.getElem?_toArray, List.getElem?_cons_zero, List.getElem?_cons_succ]; exact rfl) (by kernel_rfl) (by kernel_rfl) (by kernel_rfl) ?hqx10 (Or.inl ⟨by rfl, ?hyx10⟩) (by assumption) ?restx10
        case hyx10 => (intro w hSw; (try dsimp only at hSw); go_simp; try (with_reducible rfl))
        case hqx10 => exact fun _ _ _ h => h
        try simp only [Act.put, List.setIfInBounds_toArray, List.set_cons_zero, List.set_cons_succ]
        refine wpAnyH_take (i := 4) (v := undef) (by simp only [List.getElem?_toArray, List.getElem?_cons_zero, List.getElem?_cons_succ]; exact rfl) (by kernel_rfl) (by kernel_rfl) (by kernel_rfl) ?hqx11 (Or.inr ⟨by rfl, rfl⟩) (by assumption) ?restx11
        case hqx11 => exact fun _ _ _ h => h
        try simp only [Act.put, List.setIfInBounds_toArray, List.set_cons_zero, List.set_cons_succ]
        refine wpAnyH_take (i := 5) (v := undef) (by simp only [List.getElem?_toArray, List.getElem?_cons_zero, List.getElem?_cons_succ]; exact rfl) (by kernel_rfl) (by kernel_rfl) (by kernel_rfl) ?hqx12 (Or.inr ⟨by rfl, rfl⟩) (by assumption) ?restx12
        case hqx12 => exact fun _ _ _ h => h
        try simp only [Act.put, List.setIfInBounds_toArray, List.set_cons_zero, List.set_cons_succ]
        refine wpAnyH_take (i := 6) (v := ?vvx13) (by simp only [List.getElem?_toArray, List.getElem?_cons_zero, List.getElem?_cons_succ]; exact rfl) (by kernel_rfl) (by kernel_rfl) (by kernel_rfl) ?hqx13 (Or.inl ⟨by rfl, ?hyx13⟩) (by assumption) ?restx13
        case hyx13 => (intro w hSw; (try dsimp only at hSw); go_simp; try (with_reducible rfl))
        case hqx13 => exact fun _ _ _ h => h
        try simp only [Act.put, List.setIfInBounds_toArray, List.set_cons_zero, List.set_cons_succ]
        refine wpAnyH_ready (rs := [10]) (by kernel_rfl) (by simp) ?_
        refine AllReadyH.cons (by simp only [List.getElem?_toArray, List.getElem?_cons_zero, List.getElem?_cons_succ]; exact rfl) (fun K hK => ?_) AllReadyH.nil
        go_simp
        (first | (go_at_call 98; refine (HT.out _).mono ?_; rintro e w1 ⟨rfl, hb1⟩) | (go_at_call 99; refine (i_isDay _ _).mono ?_; rintro e w' ⟨rfl, rfl⟩) | (go_at_call 86; refine (HA.out _ _ (HSA.kept (by repeat (first | assumption | exact Below.refl _ _ | refine kept_drew ?_ | refine kept_alloc ?_ _ | refine kept_trans ?_ (by assumption)))) (by first | exact Sl.one_at (by first | rfl | simp) | exact (Sl.one_at (by first | rfl | simp)).kept (by repeat (first | assumption | exact Below.refl _ _ | refine kept_drew ?_ | refine kept_alloc ?_ _ | refine kept_trans ?_ (by assumption))))).mono ?_; rintro e w2 ⟨rfl, hb2⟩))
        go_wp2_with fail
        refine hK.out _ _ ?_ (fun hHeld => ?_)
        · ((try dsimp only); (repeat' apply And.intro) <;> (first | (go_keep; done) | (apply cell_kept; assumption; repeat (first | assumption | exact Below.refl _ _ | refine kept_drew ?_ | refine kept_alloc ?_ _ | refine kept_trans ?_ (by assumption)))))
        clear hK K
        try simp only [Act.put, List.setIfInBounds_toArray, List.set_cons_zero, List.set_cons_succ]
        refine wpAnyH_take (i := 11) (v := ?vvx14) (by simp only [List.getElem?_toArray, List.getElem?_cons_zero, List.getElem?_cons_succ]; exact rfl) (by kernel_rfl) (by kernel_rfl) (by kernel_rfl) ?hqx14 (Or.inl ⟨by rfl, ?hyx14⟩) (by assumption) ?restx14
        case hyx14 => (intro w hSw; (try dsimp only at hSw); go_simp; try (with_reducible rfl))
        case hqx14 => exact fun _ _ _ h => h
        try simp only [Act.put, List.setIfInBounds_toArray, List.set_cons_zero, List.set_cons_succ]
        refine wpAnyH_done (by kernel_rfl) ?_ _
        go_wp2_with fail
        go_meet
        exact ⟨rfl, (by repeat (first | assumption | exact Below.refl _ _ | refine kept_drew ?_ | refine kept_alloc ?_ _ | refine kept_trans ?_ (by assumption)))⟩
    all_goals
      rw [HV.out] at HA
      rw [h1] at HT
      go_region_held3 (fun w' => w'.cell? ⟨W.heap.size, 0, none⟩ = some (.string id) ∧ w'.cell? ⟨W.heap.size, 1, none⟩ = some (.int .i64 bo) ∧ w'.cell? ⟨W.heap.size, 2, none⟩ = some (.int .i64 u)) (((try dsimp only); (repeat' apply And.intro) <;> (first | (go_keep; done) | (apply cell_kept; assumption; repeat (first | assumption | exact Below.refl _ _ | refine kept_drew ?_ | refine kept_alloc ?_ _ | refine kept_trans ?_ (by assumption)))))) (first | (go_at_call 98; refine (HT.out _).mono ?_; rintro e w1 ⟨rfl, hb1⟩) | (go_at_call 99; refine (i_isDay _ _).mono ?_; rintro e w' ⟨rfl, rfl⟩) | (go_at_call 86; refine (HA.out _ _ (HSA.kept (by repeat (first | assumption | exact Below.refl _ _ | refine kept_drew ?_ | refine kept_alloc ?_ _ | refine kept_trans ?_ (by assumption)))) (by first | exact Sl.one_at (by first | rfl | simp) | exact (Sl.one_at (by first | rfl | simp)).kept (by repeat (first | assumption | exact Below.refl _ _ | refine kept_drew ?_ | refine kept_alloc ?_ _ | refine kept_trans ?_ (by assumption))))).mono ?_; rintro e w2 ⟨rfl, hb2⟩))
      all_goals
        go_wp2_with fail
        go_meet
        exact ⟨rfl, (by repeat (first | assumption | exact Below.refl _ _ | refine kept_drew ?_ | refine kept_alloc ?_ _ | refine kept_trans ?_ (by assumption)))⟩
  case rest =>
    obtain ⟨rfl, hk⟩ := hcut
    clear q0 q1 q2 HA HT
    have p0 := cell_keep hk Q0.out
    have p1 := cell_keep hk Q1.out
    have p2 := cell_keep hk Q2.out
    have HSW := HSA.kept hk
    rcases HX.out with ⟨k, rfl, hfine, hk0, hf0, hb0, hcc, hd0⟩ | ⟨hx1, hx3⟩
    · have hR := Lib.hid (ofFare_yes (f := utF bo u day) HC.out hf0)
      have HFo := Lib.hid (fun w hs => i_fareOf_yes (b := b) (c := c) (d := d) hf0 (.slice ao n cap) w hs)
      simp only [Bool.and_eq_true] at hfine
      obtain ⟨h1, h2⟩ := hfine
      obtain ⟨-, hbo, hu⟩ := HTK h1
      have hday := inB_out h2
      clear hf0 HTK
      have HG := Lib.hid (fun w => i_isGood (a k) id (b k) (c k) (d k) bo u day w hbo hday)
      cases hgd : tgood bo u (c k) (d k) day
      · have hR2 := Lib.hid (hR.out.trans (utF_no (b := b k) hgd))
        rw [hgd] at HG
        clear hR hgd
        go_wp2_with (first | (go_at_call 87; refine (HFo.out _ HSW).mono ?_; rintro e w3 ⟨rfl, hb3⟩; have hk3 := kept_alloc hb3 (.cells #[.string (a k), .int .i64 (b k), .int .i64 (c k), .int .i64 (d k)] 101); have s0 := cell_keep hk3 p0; have s1 := cell_keep hk3 p1; have s2 := cell_keep hk3 p2) | (go_at_call 100; refine (HG.out _).mono ?_; rintro e w4 ⟨rfl, hb4⟩; have hk4 := kept_trans hk (kept_trans hk3 hb4); have z0 := cell_keep hk4 Z0.out; have z1 := cell_keep hk4 Z1.out; have z2 := cell_keep hk4 Z2.out; have f0 := free_keep hk4 HL (F0.out 0); have f1 := free_keep hk4 HL (F0.out 1); have f2 := free_keep hk4 HL (F0.out 2)))
        obtain ⟨y0, y1, y2⟩ := set3_at (v0 := .string ⟨#[]⟩) (v1 := .int .i64 0) (v2 := .int .i64 0) z0 z1 z2
        refine bodyPost_ret (v := .tuple #[.agg #[.string ⟨#[]⟩, .int .i64 0, .int .i64 0], .int .i64 6]) (by simp [results, go_sem, y0, y1, y2]) rfl ⟨by rw [hR2.out, utV_no], kept_set (kept_set (kept_set (kept_trans KB hk4) (by simp) _) (by simp) _) (by simp) _⟩
      · have hR2 := Lib.hid (hR.out.trans (utF_yes (b := b k) hgd))
        rw [hgd] at HG
        clear hR hgd
        have e1 : IntKind.i64.wrap (u + 1) = u + 1 := IntWalk.i64_in _ (by omega)
        go_wp2_with (first | (go_at_call 87; refine (HFo.out _ HSW).mono ?_; rintro e w3 ⟨rfl, hb3⟩; have hk3 := kept_alloc hb3 (.cells #[.string (a k), .int .i64 (b k), .int .i64 (c k), .int .i64 (d k)] 101); have s0 := cell_keep hk3 p0; have s1 := cell_keep hk3 p1; have s2 := cell_keep hk3 p2) | (go_at_call 100; refine (HG.out _).mono ?_; rintro e w4 ⟨rfl, hb4⟩; have hk4 := kept_trans hk (kept_trans hk3 hb4); have z0 := cell_keep hk4 Z0.out; have z1 := cell_keep hk4 Z1.out; have z2 := cell_keep hk4 Z2.out; have f0 := free_keep hk4 HL (F0.out 0); have f1 := free_keep hk4 HL (F0.out 1); have f2 := free_keep hk4 HL (F0.out 2); have r0 := cell_keep hk4 Q0.out; have r1 := cell_keep hk4 Q1.out; have r2 := cell_keep hk4 Q2.out; have fr := free_keep hk4 (Nat.lt_of_succ_lt HL) (G0.out 2)))
        have n1 : (⟨W.heap.size, 2, none⟩ : Addr).block ≠ W.heap.size + 1 := by simp
        obtain ⟨y0, y1, y2⟩ := set3_at (v0 := .string id) (v1 := .int .i64 bo) (v2 := .int .i64 (u + 1)) ((World.cell?_setCell_far w4 ⟨W.heap.size, 2, none⟩ ⟨W.heap.size + 1, 0, none⟩ (.int .i64 (u + 1)) n1).trans z0) ((World.cell?_setCell_far w4 ⟨W.heap.size, 2, none⟩ ⟨W.heap.size + 1, 1, none⟩ (.int .i64 (u + 1)) n1).trans z1) ((World.cell?_setCell_far w4 ⟨W.heap.size, 2, none⟩ ⟨W.heap.size + 1, 2, none⟩ (.int .i64 (u + 1)) n1).trans z2)
        refine bodyPost_ret (v := .tuple #[.agg #[.string id, .int .i64 bo, .int .i64 (u + 1)], .int .i64 0]) (by simp [results, go_sem, y0, y1, y2]) rfl ⟨by rw [hR2.out, utV_yes], kept_set (kept_set (kept_set (kept_set (kept_trans KB hk4) (by simp) _) (by simp) _) (by simp) _) (by simp) _⟩
    · have hR := Lib.hid (ofFare_no (f := utF bo u day) HC.out hx3)
      have hx0 : ((x : Int) != 0) = true := by simp; omega
      clear hx3 HTK
      have z0 := cell_keep hk Z0.out
      have z1 := cell_keep hk Z1.out
      have z2 := cell_keep hk Z2.out
      have f0 := free_keep hk HL (F0.out 0)
      have f1 := free_keep hk HL (F0.out 1)
      have f2 := free_keep hk HL (F0.out 2)
      go_wp2_with fail
      obtain ⟨y0, y1, y2⟩ := set3_at (v0 := .string ⟨#[]⟩) (v1 := .int .i64 0) (v2 := .int .i64 0) z0 z1 z2
      refine bodyPost_ret (v := .tuple #[.agg #[.string ⟨#[]⟩, .int .i64 0, .int .i64 0], .int .i64 x]) (by simp [results, go_sem, y0, y1, y2]) rfl ⟨by rw [hR.out, utV_no], kept_set (kept_set (kept_set (kept_trans KB hk) (by simp) _) (by simp) _) (by simp) _⟩

theorem l_UseTicket {W : World} (v : Value) (n : Nat) (a : Nat → ByteArray) (b c d : Nat → Int) (hs : Sl W v 4 n (gc a b c d)) (hx : Hid (∀ i, i < n → ((a i).size : Int) ≤ 9223372036854775807)) (id : ByteArray) (bo u day : Int) (hc : (id.size : Int) ≤ 9223372036854775807) : Calls Try.prog 14 #[v, .agg #[.string id, .int .i64 bo, .int .i64 u], .int .i64 day] W (Truly W) :=
  l_UseTicket_of v n a b c d id bo u day hs hx hc _ _ _ _ (fun w q h hl hi => by have := s_UseTicket q n a b c d id bo u day w h hl hi; unfold utV at this; exact this) (fun w q h hl hi => by have := i_UseTicket q n a b c d id bo u day w h hl hi; unfold utV at this; exact this)

end Go.Proofs.Ytfnollbeeehpnaa
