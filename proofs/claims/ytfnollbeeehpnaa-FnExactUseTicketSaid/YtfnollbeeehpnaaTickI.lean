/- How many rides a ticket has left: the program, and the law. -/
import Derived.Test.YtfnollbeeehpnaaTickS
import Derived.Test.YtfnollbeeehpnaaGLawT
namespace Go.Proofs.Ytfnollbeeehpnaa
open Go.RowKit Go.Deep
set_option linter.unusedVariables false
set_option maxRecDepth 100000

theorem Sl.one_at {w : World} {s : ByteArray} {t : TypeId} {k : Nat} (hk : w.heap.size = k) : Sl (w.alloc (.cells #[.string s] t)) (.slice (some ⟨k, 0, none⟩) 1 1) 1 1 (sc fun _ => s) := by
  subst hk
  exact Sl.one_str

set_option maxHeartbeats 3200000 in
theorem i_TicketLeft (v : Value) (n : Nat) (a : Nat → ByteArray) (b c d : Nat → Int) (id : ByteArray) (bo u day : Int) (W : World) (hs : Sl W v 4 n (gc a b c d)) (hx : Hid (∀ i, i < n → ((a i).size : Int) ≤ 1048576)) (hid : (id.size : Int) ≤ 1048576) :
    Calls Try.prog 54 #[v, .agg #[.string id, .int .i64 bo, .int .i64 u], .int .i64 day] W fun e W' => e = .returned (.tuple #[.int .i64 (ofFare n a b c d (vTk id bo u && inB day 0 36524) id (tlF bo u day)).1, .int .i64 (ofFare n a b c d (vTk id bo u && inB day 0 36524) id (tlF bo u day)).2]) ∧ Below W.heap.size W W' := by
  have HA := Lib.hid (fun fine w q h h2 => i_fared v n a b c d fine q 1 (fun _ => id) w h hx h2)
  have KB := kept_alloc (Below.refl W.heap.size W) (.cells #[.string id, .int .i64 bo, .int .i64 u] 69)
  have HSA := hs.kept KB
  have q0 : (W.alloc (.cells #[.string id, .int .i64 bo, .int .i64 u] 69)).cell? ⟨W.heap.size, 0, none⟩ = some (.string id) := boxed_at rfl rfl
  have q1 : (W.alloc (.cells #[.string id, .int .i64 bo, .int .i64 u] 69)).cell? ⟨W.heap.size, 1, none⟩ = some (.int .i64 bo) := boxed_at rfl rfl
  have q2 : (W.alloc (.cells #[.string id, .int .i64 bo, .int .i64 u] 69)).cell? ⟨W.heap.size, 2, none⟩ = some (.int .i64 u) := boxed_at rfl rfl
  have Q0 := Lib.hid q0
  have Q1 := Lib.hid q1
  have Q2 := Lib.hid q2
  have HT := Lib.hid (fun w => i_isTicket id bo u w hid)
  have HTK := @vTk_out id bo u
  generalize vTk id bo u = vt at *
  obtain ⟨hn, ao, cap, rfl, hr⟩ := hs
  clear hr
  have hok : (vt && inB day 0 36524) = (vt && inB day 0 36524) := rfl
  rcases fcode_cases n a b c d (vt && inB day 0 36524) id with ⟨x, hc, hx3⟩ | ⟨hc, hfine, h8, k, hk0, hf0, hb0, hcc, hd0⟩
  · have hR := Lib.hid (ofFare_no (f := tlF bo u day) hc hx3)
    have HA := Lib.hid (HA.out (vt && inB day 0 36524))
    rw [hc] at HA
    clear hc hok HTK
    rcases tl_cases vt (inB day 0 36524) with ⟨h1, HV⟩ | ⟨h1, h2, HV⟩ | ⟨h1, h2, HV⟩
    · rw [HV.out] at HA
      rw [h1] at HT
      rcases hx3 with rfl | rfl | rfl
      · go_enter Try.func54, Try.ntmps54
        go_wp2_with (fail)
        refine wp_region_held_drew (S := (fun w' => w'.cell? ⟨W.heap.size, 0, none⟩ = some (.string id) ∧ w'.cell? ⟨W.heap.size, 1, none⟩ = some (.int .i64 bo) ∧ w'.cell? ⟨W.heap.size, 2, none⟩ = some (.int .i64 u))) (by kernel_rfl) ?_ (fun hHeld => ?_)
        · (try dsimp only); (first | go_keep | (go_split_ands; refine ⟨?_, ?_, ?_⟩ <;> (first | exact cell_keep hb2 (by assumption) | exact cell_keep hb1 (by assumption))))
        refine wpAnyH_take (i := 0) (v := ?vvx1) (by simp only [List.getElem?_toArray, List.getElem?_cons_zero]; exact rfl) (by kernel_rfl) (by kernel_rfl) (by kernel_rfl) ?hqx1 (Or.inl ⟨by rfl, ?hyx1⟩) (by assumption) ?restx1
        case hyx1 => (intro w hSw; (try dsimp only at hSw); go_simp; try (with_reducible rfl))
        case hqx1 => exact fun _ _ _ h => h
        try simp only [Act.put, List.setIfInBounds_toArray, List.set_cons_zero, List.set_cons_succ]
        refine wpAnyH_take (i := 1) (v := ?vvx2) (by simp only [List.getElem?_toArray, List.getElem?_cons_zero, List.getElem?_cons_succ]; exact rfl) (by kernel_rfl) (by kernel_rfl) (by kernel_rfl) ?hqx2 (Or.inl ⟨by rfl, ?hyx2⟩) (by assumption) ?restx2
        case hyx2 => (intro w hSw; (try dsimp only at hSw); go_simp; try (with_reducible rfl))
        case hqx2 => exact fun _ _ _ h => h
        try simp only [Act.put, List.setIfInBounds_toArray, List.set_cons_zero, List.set_cons_succ]
        refine wpAnyH_take (i := 7) (v := ?vvx3) (by simp only [List.getElem?_toArray, List.getElem?_cons_zero, List.getElem?_cons_succ]; exact rfl) (by kernel_rfl) (by kernel_rfl) (by kernel_rfl) ?hqx3 (Or.inl ⟨by rfl, ?hyx3⟩) (by assumption) ?restx3
        case hyx3 => (intro w hSw; (try dsimp only at hSw); go_simp; try (with_reducible rfl))
        case hqx3 => exact fun _ _ _ h => h
        try simp only [Act.put, List.setIfInBounds_toArray, List.set_cons_zero, List.set_cons_succ]
        refine wpAnyH_take (i := 8) (v := ?vvx4) (by simp only [List.getElem?_toArray, List.getElem?_cons_zero, List.getElem?_cons_succ]; exact rfl) (by kernel_rfl) (by kernel_rfl) (by kernel_rfl) ?hqx4 (Or.inl ⟨by rfl, ?hyx4⟩) (by assumption) ?restx4
        case hyx4 => (intro w hSw; (try dsimp only at hSw); go_simp; try (with_reducible rfl))
        case hqx4 => exact fun _ _ _ h => h
        try simp only [Act.put, List.setIfInBounds_toArray, List.set_cons_zero, List.set_cons_succ]
        refine wpAnyH_ready (rs := [2, 9]) (by kernel_rfl) (by simp) ?_
        refine AllReadyH.cons (by simp only [List.getElem?_toArray, List.getElem?_cons_zero, List.getElem?_cons_succ]; exact rfl) (fun K hK => ?_) (AllReadyH.cons (by simp only [List.getElem?_toArray, List.getElem?_cons_zero, List.getElem?_cons_succ]; exact rfl) (fun K hK => ?_) AllReadyH.nil)
        · go_simp
          (first | (go_at_call 98; refine (HT.out _).mono ?_; rintro e w1 ⟨rfl, hb1⟩) | (go_at_call 99; refine (i_isDay _ _).mono ?_; rintro e w' ⟨rfl, rfl⟩) | (go_at_call 86; refine (HA.out _ _ (by first | exact HSA.kept (kept_alloc (kept_trans (kept_drew (Below.refl _ _)) hb1) _) | exact HSA.kept (kept_trans (kept_drew (kept_alloc (Below.refl _ _) _)) hb1)) (by first | exact Sl.one_at (by first | rfl | simp) | exact (Sl.one_at (by first | rfl | simp)).kept (kept_trans (kept_drew (Below.refl _ _)) hb1))).mono ?_; rintro e w2 ⟨rfl, hb2⟩))
          go_wp2_with fail
          refine hK.out _ _ ?_ (fun hHeld => ?_)
          · (try dsimp only); (first | go_keep | (go_split_ands; refine ⟨?_, ?_, ?_⟩ <;> (first | exact cell_keep hb2 (by assumption) | exact cell_keep hb1 (by assumption))))
          clear hK K
          try simp only [Act.put, List.setIfInBounds_toArray, List.set_cons_zero, List.set_cons_succ]
          refine wpAnyH_take (i := 3) (v := ?vvx5) (by simp only [List.getElem?_toArray, List.getElem?_cons_zero, List.getElem?_cons_succ]; exact rfl) (by kernel_rfl) (by kernel_rfl) (by kernel_rfl) ?hqx5 (Or.inl ⟨by rfl, ?hyx5⟩) (by assumption) ?restx5
          case hyx5 => (intro w hSw; (try dsimp only at hSw); go_simp; try (with_reducible rfl))
          case hqx5 => exact fun _ _ _ h => h
          try simp only [Act.put, List.setIfInBounds_toArray, List.set_cons_zero, List.set_cons_succ]
          refine wpAnyH_take (i := 4) (v := undef) (by simp only [List.getElem?_toArray, List.getElem?_cons_zero, List.getElem?_cons_succ]; exact rfl) (by kernel_rfl) (by kernel_rfl) (by kernel_rfl) ?hqx6 (Or.inr ⟨by rfl, rfl⟩) (by assumption) ?restx6
          case hqx6 => exact fun _ _ _ h => h
          try simp only [Act.put, List.setIfInBounds_toArray, List.set_cons_zero, List.set_cons_succ]
          refine wpAnyH_take (i := 5) (v := undef) (by simp only [List.getElem?_toArray, List.getElem?_cons_zero, List.getElem?_cons_succ]; exact rfl) (by kernel_rfl) (by kernel_rfl) (by kernel_rfl) ?hqx7 (Or.inr ⟨by rfl, rfl⟩) (by assumption) ?restx7
          case hqx7 => exact fun _ _ _ h => h
          try simp only [Act.put, List.setIfInBounds_toArray, List.set_cons_zero, List.set_cons_succ]
          refine wpAnyH_take (i := 6) (v := ?vvx8) (by simp only [List.getElem?_toArray, List.getElem?_cons_zero, List.getElem?_cons_succ]; exact rfl) (by kernel_rfl) (by kernel_rfl) (by kernel_rfl) ?hqx8 (Or.inl ⟨by rfl, ?hyx8⟩) (by assumption) ?restx8
          case hyx8 => (intro w hSw; (try dsimp only at hSw); go_simp; try (with_reducible rfl))
          case hqx8 => exact fun _ _ _ h => h
          try simp only [Act.put, List.setIfInBounds_toArray, List.set_cons_zero, List.set_cons_succ]
          refine wpAnyH_ready (rs := [9]) (by kernel_rfl) (by simp) ?_
          refine AllReadyH.cons (by simp only [List.getElem?_toArray, List.getElem?_cons_zero, List.getElem?_cons_succ]; exact rfl) (fun K hK => ?_) AllReadyH.nil
          go_simp
          refine hK.out _ _ ?_ (fun hHeld => ?_)
          · (try dsimp only); (first | go_keep | (go_split_ands; refine ⟨?_, ?_, ?_⟩ <;> (first | exact cell_keep hb2 (by assumption) | exact cell_keep hb1 (by assumption))))
          clear hK K
          try simp only [Act.put, List.setIfInBounds_toArray, List.set_cons_zero, List.set_cons_succ]
          refine wpAnyH_ready (rs := [10]) (by kernel_rfl) (by simp) ?_
          refine AllReadyH.cons (by simp only [List.getElem?_toArray, List.getElem?_cons_zero, List.getElem?_cons_succ]; exact rfl) (fun K hK => ?_) AllReadyH.nil
          go_simp
          (first | (go_at_call 98; refine (HT.out _).mono ?_; rintro e w1 ⟨rfl, hb1⟩) | (go_at_call 99; refine (i_isDay _ _).mono ?_; rintro e w' ⟨rfl, rfl⟩) | (go_at_call 86; refine (HA.out _ _ (by first | exact HSA.kept (kept_alloc (kept_trans (kept_drew (Below.refl _ _)) hb1) _) | exact HSA.kept (kept_trans (kept_drew (kept_alloc (Below.refl _ _) _)) hb1)) (by first | exact Sl.one_at (by first | rfl | simp) | exact (Sl.one_at (by first | rfl | simp)).kept (kept_trans (kept_drew (Below.refl _ _)) hb1))).mono ?_; rintro e w2 ⟨rfl, hb2⟩))
          go_wp2_with fail
          refine hK.out _ _ ?_ (fun hHeld => ?_)
          · (try dsimp only); (first | go_keep | (go_split_ands; refine ⟨?_, ?_, ?_⟩ <;> (first | exact cell_keep hb2 (by assumption) | exact cell_keep hb1 (by assumption))))
          clear hK K
          try simp only [Act.put, List.setIfInBounds_toArray, List.set_cons_zero, List.set_cons_succ]
          refine wpAnyH_take (i := 11) (v := ?vvx9) (by simp only [List.getElem?_toArray, List.getElem?_cons_zero, List.getElem?_cons_succ]; exact rfl) (by kernel_rfl) (by kernel_rfl) (by kernel_rfl) ?hqx9 (Or.inl ⟨by rfl, ?hyx9⟩) (by assumption) ?restx9
          case hyx9 => (intro w hSw; (try dsimp only at hSw); go_simp; try (with_reducible rfl))
          case hqx9 => exact fun _ _ _ h => h
          try simp only [Act.put, List.setIfInBounds_toArray, List.set_cons_zero, List.set_cons_succ]
          refine wpAnyH_done (by kernel_rfl) ?_ _
          go_wp2_with fail
          go_ret2
          exact ⟨by rw [hR.out]; rfl, (by first | exact kept_trans KB (kept_trans (kept_alloc (kept_trans (kept_drew (Below.refl _ _)) hb1) _) hb2) | exact kept_trans KB (kept_trans (kept_trans (kept_drew (kept_alloc (Below.refl _ _) _)) hb1) hb2))⟩
        · go_simp
          refine hK.out _ _ ?_ (fun hHeld => ?_)
          · (try dsimp only); (first | go_keep | (go_split_ands; refine ⟨?_, ?_, ?_⟩ <;> (first | exact cell_keep hb2 (by assumption) | exact cell_keep hb1 (by assumption))))
          clear hK K
          try simp only [Act.put, List.setIfInBounds_toArray, List.set_cons_zero, List.set_cons_succ]
          refine wpAnyH_ready (rs := [2]) (by kernel_rfl) (by simp) ?_
          refine AllReadyH.cons (by simp only [List.getElem?_toArray, List.getElem?_cons_zero, List.getElem?_cons_succ]; exact rfl) (fun K hK => ?_) AllReadyH.nil
          go_simp
          (first | (go_at_call 98; refine (HT.out _).mono ?_; rintro e w1 ⟨rfl, hb1⟩) | (go_at_call 99; refine (i_isDay _ _).mono ?_; rintro e w' ⟨rfl, rfl⟩) | (go_at_call 86; refine (HA.out _ _ (by first | exact HSA.kept (kept_alloc (kept_trans (kept_drew (Below.refl _ _)) hb1) _) | exact HSA.kept (kept_trans (kept_drew (kept_alloc (Below.refl _ _) _)) hb1)) (by first | exact Sl.one_at (by first | rfl | simp) | exact (Sl.one_at (by first | rfl | simp)).kept (kept_trans (kept_drew (Below.refl _ _)) hb1))).mono ?_; rintro e w2 ⟨rfl, hb2⟩))
          go_wp2_with fail
          refine hK.out _ _ ?_ (fun hHeld => ?_)
          · (try dsimp only); (first | go_keep | (go_split_ands; refine ⟨?_, ?_, ?_⟩ <;> (first | exact cell_keep hb2 (by assumption) | exact cell_keep hb1 (by assumption))))
          clear hK K
          try simp only [Act.put, List.setIfInBounds_toArray, List.set_cons_zero, List.set_cons_succ]
          refine wpAnyH_take (i := 3) (v := ?vvx10) (by simp only [List.getElem?_toArray, List.getElem?_cons_zero, List.getElem?_cons_succ]; exact rfl) (by kernel_rfl) (by kernel_rfl) (by kernel_rfl) ?hqx10 (Or.inl ⟨by rfl, ?hyx10⟩) (by assumption) ?restx10
          case hyx10 => (intro w hSw; (try dsimp only at hSw); go_simp; try (with_reducible rfl))
          case hqx10 => exact fun _ _ _ h => h
          try simp only [Act.put, List.setIfInBounds_toArray, List.set_cons_zero, List.set_cons_succ]
          refine wpAnyH_take (i := 4) (v := undef) (by simp only [List.getElem?_toArray, List.getElem?_cons_zero, List.getElem?_cons_succ]; exact rfl) (by kernel_rfl) (by kernel_rfl) (by kernel_rfl) ?hqx11 (Or.inr ⟨by rfl, rfl⟩) (by assumption) ?restx11
          case hqx11 => exact fun _ _ _ h => h
          try simp only [Act.put, List.setIfInBounds_toArray, List.set_cons_zero, List.set_cons_succ]
          refine wpAnyH_take (i := 5) (v := undef) (by simp only [List.getElem?_toArray, List.getElem?_cons_zero, List.getElem?_cons_succ]; exact rfl) (by kernel_rfl) (by kernel_rfl) (by kernel_rfl) ?hqx12 (Or.inr ⟨by rfl, rfl⟩) (by assumption) ?restx12
          case hqx12 => exact fun _ _ _ h => h
          try simp only [Act.put, List.setIfInBounds_toArray, List.set_cons_zero, List.set_cons_succ]
          refine wpAnyH_take (i := 6) (v := ?vvx13) (by simp only [List.getElem?_toArray, List.getElem?_cons_zero, List.getElem?_cons_succ]; exact rfl) (by kernel_rfl) (by kernel_rfl) (by kernel_rfl) ?hqx13 (Or.inl ⟨by rfl, ?hyx13⟩) (by assumption) ?restx13
          case hyx13 => (intro w hSw; (try dsimp only at hSw); go_simp; try (with_reducible rfl))
          case hqx13 => exact fun _ _ _ h => h
          try simp only [Act.put, List.setIfInBounds_toArray, List.set_cons_zero, List.set_cons_succ]
          refine wpAnyH_ready (rs := [10]) (by kernel_rfl) (by simp) ?_
          refine AllReadyH.cons (by simp only [List.getElem?_toArray, List.getElem?_cons_zero, List.getElem?_cons_succ]; exact rfl) (fun K hK => ?_) AllReadyH.nil
          go_simp
          (first | (go_at_call 98; refine (HT.out _).mono ?_; rintro e w1 ⟨rfl, hb1⟩) | (go_at_call 99; refine (i_isDay _ _).mono ?_; rintro e w' ⟨rfl, rfl⟩) | (go_at_call 86; refine (HA.out _ _ (by first | exact HSA.kept (kept_alloc (kept_trans (kept_drew (Below.refl _ _)) hb1) _) | exact HSA.kept (kept_trans (kept_drew (kept_alloc (Below.refl _ _) _)) hb1)) (by first | exact Sl.one_at (by first | rfl | simp) | exact (Sl.one_at (by first | rfl | simp)).kept (kept_trans (kept_drew (Below.refl _ _)) hb1))).mono ?_; rintro e w2 ⟨rfl, hb2⟩))
          go_wp2_with fail
          refine hK.out _ _ ?_ (fun hHeld => ?_)
          · (try dsimp only); (first | go_keep | (go_split_ands; refine ⟨?_, ?_, ?_⟩ <;> (first | exact cell_keep hb2 (by assumption) | exact cell_keep hb1 (by assumption))))
          clear hK K
          try simp only [Act.put, List.setIfInBounds_toArray, List.set_cons_zero, List.set_cons_succ]
          refine wpAnyH_take (i := 11) (v := ?vvx14) (by simp only [List.getElem?_toArray, List.getElem?_cons_zero, List.getElem?_cons_succ]; exact rfl) (by kernel_rfl) (by kernel_rfl) (by kernel_rfl) ?hqx14 (Or.inl ⟨by rfl, ?hyx14⟩) (by assumption) ?restx14
          case hyx14 => (intro w hSw; (try dsimp only at hSw); go_simp; try (with_reducible rfl))
          case hqx14 => exact fun _ _ _ h => h
          try simp only [Act.put, List.setIfInBounds_toArray, List.set_cons_zero, List.set_cons_succ]
          refine wpAnyH_done (by kernel_rfl) ?_ _
          go_wp2_with fail
          go_ret2
          exact ⟨by rw [hR.out]; rfl, (by first | exact kept_trans KB (kept_trans (kept_alloc (kept_trans (kept_drew (Below.refl _ _)) hb1) _) hb2) | exact kept_trans KB (kept_trans (kept_trans (kept_drew (kept_alloc (Below.refl _ _) _)) hb1) hb2))⟩
      · go_enter Try.func54, Try.ntmps54
        go_wp2_with (fail)
        refine wp_region_held_drew (S := (fun w' => w'.cell? ⟨W.heap.size, 0, none⟩ = some (.string id) ∧ w'.cell? ⟨W.heap.size, 1, none⟩ = some (.int .i64 bo) ∧ w'.cell? ⟨W.heap.size, 2, none⟩ = some (.int .i64 u))) (by kernel_rfl) ?_ (fun hHeld => ?_)
        · (try dsimp only); (first | go_keep | (go_split_ands; refine ⟨?_, ?_, ?_⟩ <;> (first | exact cell_keep hb2 (by assumption) | exact cell_keep hb1 (by assumption))))
        refine wpAnyH_take (i := 0) (v := ?vvx15) (by simp only [List.getElem?_toArray, List.getElem?_cons_zero]; exact rfl) (by kernel_rfl) (by kernel_rfl) (by kernel_rfl) ?hqx15 (Or.inl ⟨by rfl, ?hyx15⟩) (by assumption) ?restx15
        case hyx15 => (intro w hSw; (try dsimp only at hSw); go_simp; try (with_reducible rfl))
        case hqx15 => exact fun _ _ _ h => h
        try simp only [Act.put, List.setIfInBounds_toArray, List.set_cons_zero, List.set_cons_succ]
        refine wpAnyH_take (i := 1) (v := ?vvx16) (by simp only [List.getElem?_toArray, List.getElem?_cons_zero, List.getElem?_cons_succ]; exact rfl) (by kernel_rfl) (by kernel_rfl) (by kernel_rfl) ?hqx16 (Or.inl ⟨by rfl, ?hyx16⟩) (by assumption) ?restx16
        case hyx16 => (intro w hSw; (try dsimp only at hSw); go_simp; try (with_reducible rfl))
        case hqx16 => exact fun _ _ _ h => h
        try simp only [Act.put, List.setIfInBounds_toArray, List.set_cons_zero, List.set_cons_succ]
        refine wpAnyH_take (i := 7) (v := ?vvx17) (by simp only [List.getElem?_toArray, List.getElem?_cons_zero, List.getElem?_cons_succ]; exact rfl) (by kernel_rfl) (by kernel_rfl) (by kernel_rfl) ?hqx17 (Or.inl ⟨by rfl, ?hyx17⟩) (by assumption) ?restx17
        case hyx17 => (intro w hSw; (try dsimp only at hSw); go_simp; try (with_reducible rfl))
        case hqx17 => exact fun _ _ _ h => h
        try simp only [Act.put, List.setIfInBounds_toArray, List.set_cons_zero, List.set_cons_succ]
        refine wpAnyH_take (i := 8) (v := ?vvx18) (by simp only [List.getElem?_toArray, List.getElem?_cons_zero, List.getElem?_cons_succ]; exact rfl) (by kernel_rfl) (by kernel_rfl) (by kernel_rfl) ?hqx18 (Or.inl ⟨by rfl, ?hyx18⟩) (by assumption) ?restx18
        case hyx18 => (intro w hSw; (try dsimp only at hSw); go_simp; try (with_reducible rfl))
        case hqx18 => exact fun _ _ _ h => h
        try simp only [Act.put, List.setIfInBounds_toArray, List.set_cons_zero, List.set_cons_succ]
        refine wpAnyH_ready (rs := [2, 9]) (by kernel_rfl) (by simp) ?_
        refine AllReadyH.cons (by simp only [List.getElem?_toArray, List.getElem?_cons_zero, List.getElem?_cons_succ]; exact rfl) (fun K hK => ?_) (AllReadyH.cons (by simp only [List.getElem?_toArray, List.getElem?_cons_zero, List.getElem?_cons_succ]; exact rfl) (fun K hK => ?_) AllReadyH.nil)
        · go_simp
          (first | (go_at_call 98; refine (HT.out _).mono ?_; rintro e w1 ⟨rfl, hb1⟩) | (go_at_call 99; refine (i_isDay _ _).mono ?_; rintro e w' ⟨rfl, rfl⟩) | (go_at_call 86; refine (HA.out _ _ (by first | exact HSA.kept (kept_alloc (kept_trans (kept_drew (Below.refl _ _)) hb1) _) | exact HSA.kept (kept_trans (kept_drew (kept_alloc (Below.refl _ _) _)) hb1)) (by first | exact Sl.one_at (by first | rfl | simp) | exact (Sl.one_at (by first | rfl | simp)).kept (kept_trans (kept_drew (Below.refl _ _)) hb1))).mono ?_; rintro e w2 ⟨rfl, hb2⟩))
          go_wp2_with fail
          refine hK.out _ _ ?_ (fun hHeld => ?_)
          · (try dsimp only); (first | go_keep | (go_split_ands; refine ⟨?_, ?_, ?_⟩ <;> (first | exact cell_keep hb2 (by assumption) | exact cell_keep hb1 (by assumption))))
          clear hK K
          try simp only [Act.put, List.setIfInBounds_toArray, List.set_cons_zero, List.set_cons_succ]
          refine wpAnyH_take (i := 3) (v := ?vvx19) (by simp only [List.getElem?_toArray, List.getElem?_cons_zero, List.getElem?_cons_succ]; exact rfl) (by kernel_rfl) (by kernel_rfl) (by kernel_rfl) ?hqx19 (Or.inl ⟨by rfl, ?hyx19⟩) (by assumption) ?restx19
          case hyx19 => (intro w hSw; (try dsimp only at hSw); go_simp; try (with_reducible rfl))
          case hqx19 => exact fun _ _ _ h => h
          try simp only [Act.put, List.setIfInBounds_toArray, List.set_cons_zero, List.set_cons_succ]
          refine wpAnyH_take (i := 4) (v := undef) (by simp only [List.getElem?_toArray, List.getElem?_cons_zero, List.getElem?_cons_succ]; exact rfl) (by kernel_rfl) (by kernel_rfl) (by kernel_rfl) ?hqx20 (Or.inr ⟨by rfl, rfl⟩) (by assumption) ?restx20
          case hqx20 => exact fun _ _ _ h => h
          try simp only [Act.put, List.setIfInBounds_toArray, List.set_cons_zero, List.set_cons_succ]
          refine wpAnyH_take (i := 5) (v := undef) (by simp only [List.getElem?_toArray, List.getElem?_cons_zero, List.getElem?_cons_succ]; exact rfl) (by kernel_rfl) (by kernel_rfl) (by kernel_rfl) ?hqx21 (Or.inr ⟨by rfl, rfl⟩) (by assumption) ?restx21
          case hqx21 => exact fun _ _ _ h => h
          try simp only [Act.put, List.setIfInBounds_toArray, List.set_cons_zero, List.set_cons_succ]
          refine wpAnyH_take (i := 6) (v := ?vvx22) (by simp only [List.getElem?_toArray, List.getElem?_cons_zero, List.getElem?_cons_succ]; exact rfl) (by kernel_rfl) (by kernel_rfl) (by kernel_rfl) ?hqx22 (Or.inl ⟨by rfl, ?hyx22⟩) (by assumption) ?restx22
          case hyx22 => (intro w hSw; (try dsimp only at hSw); go_simp; try (with_reducible rfl))
          case hqx22 => exact fun _ _ _ h => h
          try simp only [Act.put, List.setIfInBounds_toArray, List.set_cons_zero, List.set_cons_succ]
          refine wpAnyH_ready (rs := [9]) (by kernel_rfl) (by simp) ?_
          refine AllReadyH.cons (by simp only [List.getElem?_toArray, List.getElem?_cons_zero, List.getElem?_cons_succ]; exact rfl) (fun K hK => ?_) AllReadyH.nil
          go_simp
          refine hK.out _ _ ?_ (fun hHeld => ?_)
          · (try dsimp only); (first | go_keep | (go_split_ands; refine ⟨?_, ?_, ?_⟩ <;> (first | exact cell_keep hb2 (by assumption) | exact cell_keep hb1 (by assumption))))
          clear hK K
          try simp only [Act.put, List.setIfInBounds_toArray, List.set_cons_zero, List.set_cons_succ]
          refine wpAnyH_ready (rs := [10]) (by kernel_rfl) (by simp) ?_
          refine AllReadyH.cons (by simp only [List.getElem?_toArray, List.getElem?_cons_zero, List.getElem?_cons_succ]; exact rfl) (fun K hK => ?_) AllReadyH.nil
          go_simp
          (first | (go_at_call 98; refine (HT.out _).mono ?_; rintro e w1 ⟨rfl, hb1⟩) | (go_at_call 99; refine (i_isDay _ _).mono ?_; rintro e w' ⟨rfl, rfl⟩) | (go_at_call 86; refine (HA.out _ _ (by first | exact HSA.kept (kept_alloc (kept_trans (kept_drew (Below.refl _ _)) hb1) _) | exact HSA.kept (kept_trans (kept_drew (kept_alloc (Below.refl _ _) _)) hb1)) (by first | exact Sl.one_at (by first | rfl | simp) | exact (Sl.one_at (by first | rfl | simp)).kept (kept_trans (kept_drew (Below.refl _ _)) hb1))).mono ?_; rintro e w2 ⟨rfl, hb2⟩))
          go_wp2_with fail
          refine hK.out _ _ ?_ (fun hHeld => ?_)
          · (try dsimp only); (first | go_keep | (go_split_ands; refine ⟨?_, ?_, ?_⟩ <;> (first | exact cell_keep hb2 (by assumption) | exact cell_keep hb1 (by assumption))))
          clear hK K
          try simp only [Act.put, List.setIfInBounds_toArray, List.set_cons_zero, List.set_cons_succ]
          refine wpAnyH_take (i := 11) (v := ?vvx23) (by simp only [List.getElem?_toArray, List.getElem?_cons_zero, List.getElem?_cons_succ]; exact rfl) (by kernel_rfl) (by kernel_rfl) (by kernel_rfl) ?hqx23 (Or.inl ⟨by rfl, ?hyx23⟩) (by assumption) ?restx23
          case hyx23 => (intro w hSw; (try dsimp only at hSw); go_simp; try (with_reducible rfl))
          case hqx23 => exact fun _ _ _ h => h
          try simp only [Act.put, List.setIfInBounds_toArray, List.set_cons_zero, List.set_cons_succ]
          refine wpAnyH_done (by kernel_rfl) ?_ _
          go_wp2_with fail
          go_ret2
          exact ⟨by rw [hR.out]; rfl, (by first | exact kept_trans KB (kept_trans (kept_alloc (kept_trans (kept_drew (Below.refl _ _)) hb1) _) hb2) | exact kept_trans KB (kept_trans (kept_trans (kept_drew (kept_alloc (Below.refl _ _) _)) hb1) hb2))⟩
        · go_simp
          refine hK.out _ _ ?_ (fun hHeld => ?_)
          · (try dsimp only); (first | go_keep | (go_split_ands; refine ⟨?_, ?_, ?_⟩ <;> (first | exact cell_keep hb2 (by assumption) | exact cell_keep hb1 (by assumption))))
          clear hK K
          try simp only [Act.put, List.setIfInBounds_toArray, List.set_cons_zero, List.set_cons_succ]
          refine wpAnyH_ready (rs := [2]) (by kernel_rfl) (by simp) ?_
          refine AllReadyH.cons (by simp only [List.getElem?_toArray, List.getElem?_cons_zero, List.getElem?_cons_succ]; exact rfl) (fun K hK => ?_) AllReadyH.nil
          go_simp
          (first | (go_at_call 98; refine (HT.out _).mono ?_; rintro e w1 ⟨rfl, hb1⟩) | (go_at_call 99; refine (i_isDay _ _).mono ?_; rintro e w' ⟨rfl, rfl⟩) | (go_at_call 86; refine (HA.out _ _ (by first | exact HSA.kept (kept_alloc (kept_trans (kept_drew (Below.refl _ _)) hb1) _) | exact HSA.kept (kept_trans (kept_drew (kept_alloc (Below.refl _ _) _)) hb1)) (by first | exact Sl.one_at (by first | rfl | simp) | exact (Sl.one_at (by first | rfl | simp)).kept (kept_trans (kept_drew (Below.refl _ _)) hb1))).mono ?_; rintro e w2 ⟨rfl, hb2⟩))
          go_wp2_with fail
          refine hK.out _ _ ?_ (fun hHeld => ?_)
          · (try dsimp only); (first | go_keep | (go_split_ands; refine ⟨?_, ?_, ?_⟩ <;> (first | exact cell_keep hb2 (by assumption) | exact cell_keep hb1 (by assumption))))
          clear hK K
          try simp only [Act.put, List.setIfInBounds_toArray, List.set_cons_zero, List.set_cons_succ]
          refine wpAnyH_take (i := 3) (v := ?vvx24) (by simp only [List.getElem?_toArray, List.getElem?_cons_zero, List.getElem?_cons_succ]; exact rfl) (by kernel_rfl) (by kernel_rfl) (by kernel_rfl) ?hqx24 (Or.inl ⟨by rfl, ?hyx24⟩) (by assumption) ?restx24
          case hyx24 => (intro w hSw; (try dsimp only at hSw); go_simp; try (with_reducible rfl))
          case hqx24 => exact fun _ _ _ h => h
          try simp only [Act.put, List.setIfInBounds_toArray, List.set_cons_zero, List.set_cons_succ]
          refine wpAnyH_take (i := 4) (v := undef) (by simp only [List.getElem?_toArray, List.getElem?_cons_zero, List.getElem?_cons_succ]; exact rfl) (by kernel_rfl) (by kernel_rfl) (by kernel_rfl) ?hqx25 (Or.inr ⟨by rfl, rfl⟩) (by assumption) ?restx25
          case hqx25 => exact fun _ _ _ h => h
          try simp only [Act.put, List.setIfInBounds_toArray, List.set_cons_zero, List.set_cons_succ]
          refine wpAnyH_take (i := 5) (v := undef) (by simp only [List.getElem?_toArray, List.getElem?_cons_zero, List.getElem?_cons_succ]; exact rfl) (by kernel_rfl) (by kernel_rfl) (by kernel_rfl) ?hqx26 (Or.inr ⟨by rfl, rfl⟩) (by assumption) ?restx26
          case hqx26 => exact fun _ _ _ h => h
          try simp only [Act.put, List.setIfInBounds_toArray, List.set_cons_zero, List.set_cons_succ]
          refine wpAnyH_take (i := 6) (v := ?vvx27) (by simp only [List.getElem?_toArray, List.getElem?_cons_zero, List.getElem?_cons_succ]; exact rfl) (by kernel_rfl) (by kernel_rfl) (by kernel_rfl) ?hqx27 (Or.inl ⟨by rfl, ?hyx27⟩) (by assumption) ?restx27
          case hyx27 => (intro w hSw; (try dsimp only at hSw); go_simp; try (with_reducible rfl))
          case hqx27 => exact fun _ _ _ h => h
          try simp only [Act.put, List.setIfInBounds_toArray, List.set_cons_zero, List.set_cons_succ]
          refine wpAnyH_ready (rs := [10]) (by kernel_rfl) (by simp) ?_
          refine AllReadyH.cons (by simp only [List.getElem?_toArray, List.getElem?_cons_zero, List.getElem?_cons_succ]; exact rfl) (fun K hK => ?_) AllReadyH.nil
          go_simp
          (first | (go_at_call 98; refine (HT.out _).mono ?_; rintro e w1 ⟨rfl, hb1⟩) | (go_at_call 99; refine (i_isDay _ _).mono ?_; rintro e w' ⟨rfl, rfl⟩) | (go_at_call 86; refine (HA.out _ _ (by first | exact HSA.kept (kept_alloc (kept_trans (kept_drew (Below.refl _ _)) hb1) _) | exact HSA.kept (kept_trans (kept_drew (kept_alloc (Below.refl _ _) _)) hb1)) (by first | exact Sl.one_at (by first | rfl | simp) | exact (Sl.one_at (by first | rfl | simp)).kept (kept_trans (kept_drew (Below.refl _ _)) hb1))).mono ?_; rintro e w2 ⟨rfl, hb2⟩))
          go_wp2_with fail
          refine hK.out _ _ ?_ (fun hHeld => ?_)
          · (try dsimp only); (first | go_keep | (go_split_ands; refine ⟨?_, ?_, ?_⟩ <;> (first | exact cell_keep hb2 (by assumption) | exact cell_keep hb1 (by assumption))))
          clear hK K
          try simp only [Act.put, List.setIfInBounds_toArray, List.set_cons_zero, List.set_cons_succ]
          refine wpAnyH_take (i := 11) (v := ?vvx28) (by simp only [List.getElem?_toArray, List.getElem?_cons_zero, List.getElem?_cons_succ]; exact rfl) (by kernel_rfl) (by kernel_rfl) (by kernel_rfl) ?hqx28 (Or.inl ⟨by rfl, ?hyx28⟩) (by assumption) ?restx28
          case hyx28 => (intro w hSw; (try dsimp only at hSw); go_simp; try (with_reducible rfl))
          case hqx28 => exact fun _ _ _ h => h
          try simp only [Act.put, List.setIfInBounds_toArray, List.set_cons_zero, List.set_cons_succ]
          refine wpAnyH_done (by kernel_rfl) ?_ _
          go_wp2_with fail
          go_ret2
          exact ⟨by rw [hR.out]; rfl, (by first | exact kept_trans KB (kept_trans (kept_alloc (kept_trans (kept_drew (Below.refl _ _)) hb1) _) hb2) | exact kept_trans KB (kept_trans (kept_trans (kept_drew (kept_alloc (Below.refl _ _) _)) hb1) hb2))⟩
      · go_enter Try.func54, Try.ntmps54
        go_wp2_with (fail)
        refine wp_region_held_drew (S := (fun w' => w'.cell? ⟨W.heap.size, 0, none⟩ = some (.string id) ∧ w'.cell? ⟨W.heap.size, 1, none⟩ = some (.int .i64 bo) ∧ w'.cell? ⟨W.heap.size, 2, none⟩ = some (.int .i64 u))) (by kernel_rfl) ?_ (fun hHeld => ?_)
        · (try dsimp only); (first | go_keep | (go_split_ands; refine ⟨?_, ?_, ?_⟩ <;> (first | exact cell_keep hb2 (by assumption) | exact cell_keep hb1 (by assumption))))
        refine wpAnyH_take (i := 0) (v := ?vvx29) (by simp only [List.getElem?_toArray, List.getElem?_cons_zero]; exact rfl) (by kernel_rfl) (by kernel_rfl) (by kernel_rfl) ?hqx29 (Or.inl ⟨by rfl, ?hyx29⟩) (by assumption) ?restx29
        case hyx29 => (intro w hSw; (try dsimp only at hSw); go_simp; try (with_reducible rfl))
        case hqx29 => exact fun _ _ _ h => h
        try simp only [Act.put, List.setIfInBounds_toArray, List.set_cons_zero, List.set_cons_succ]
        refine wpAnyH_take (i := 1) (v := ?vvx30) (by simp only [List.getElem?_toArray, List.getElem?_cons_zero, List.getElem?_cons_succ]; exact rfl) (by kernel_rfl) (by kernel_rfl) (by kernel_rfl) ?hqx30 (Or.inl ⟨by rfl, ?hyx30⟩) (by assumption) ?restx30
        case hyx30 => (intro w hSw; (try dsimp only at hSw); go_simp; try (with_reducible rfl))
        case hqx30 => exact fun _ _ _ h => h
        try simp only [Act.put, List.setIfInBounds_toArray, List.set_cons_zero, List.set_cons_succ]
        refine wpAnyH_take (i := 7) (v := ?vvx31) (by simp only [List.getElem?_toArray, List.getElem?_cons_zero, List.getElem?_cons_succ]; exact rfl) (by kernel_rfl) (by kernel_rfl) (by kernel_rfl) ?hqx31 (Or.inl ⟨by rfl, ?hyx31⟩) (by assumption) ?restx31
        case hyx31 => (intro w hSw; (try dsimp only at hSw); go_simp; try (with_reducible rfl))
        case hqx31 => exact fun _ _ _ h => h
        try simp only [Act.put, List.setIfInBounds_toArray, List.set_cons_zero, List.set_cons_succ]
        refine wpAnyH_take (i := 8) (v := ?vvx32) (by simp only [List.getElem?_toArray, List.getElem?_cons_zero, List.getElem?_cons_succ]; exact rfl) (by kernel_rfl) (by kernel_rfl) (by kernel_rfl) ?hqx32 (Or.inl ⟨by rfl, ?hyx32⟩) (by assumption) ?restx32
        case hyx32 => (intro w hSw; (try dsimp only at hSw); go_simp; try (with_reducible rfl))
        case hqx32 => exact fun _ _ _ h => h
        try simp only [Act.put, List.setIfInBounds_toArray, List.set_cons_zero, List.set_cons_succ]
        refine wpAnyH_ready (rs := [2, 9]) (by kernel_rfl) (by simp) ?_
        refine AllReadyH.cons (by simp only [List.getElem?_toArray, List.getElem?_cons_zero, List.getElem?_cons_succ]; exact rfl) (fun K hK => ?_) (AllReadyH.cons (by simp only [List.getElem?_toArray, List.getElem?_cons_zero, List.getElem?_cons_succ]; exact rfl) (fun K hK => ?_) AllReadyH.nil)
        · go_simp
          (first | (go_at_call 98; refine (HT.out _).mono ?_; rintro e w1 ⟨rfl, hb1⟩) | (go_at_call 99; refine (i_isDay _ _).mono ?_; rintro e w' ⟨rfl, rfl⟩) | (go_at_call 86; refine (HA.out _ _ (by first | exact HSA.kept (kept_alloc (kept_trans (kept_drew (Below.refl _ _)) hb1) _) | exact HSA.kept (kept_trans (kept_drew (kept_alloc (Below.refl _ _) _)) hb1)) (by first | exact Sl.one_at (by first | rfl | simp) | exact (Sl.one_at (by first | rfl | simp)).kept (kept_trans (kept_drew (Below.refl _ _)) hb1))).mono ?_; rintro e w2 ⟨rfl, hb2⟩))
          go_wp2_with fail
          refine hK.out _ _ ?_ (fun hHeld => ?_)
          · (try dsimp only); (first | go_keep | (go_split_ands; refine ⟨?_, ?_, ?_⟩ <;> (first | exact cell_keep hb2 (by assumption) | exact cell_keep hb1 (by assumption))))
          clear hK K
          try simp only [Act.put, List.setIfInBounds_toArray, List.set_cons_zero, List.set_cons_succ]
          refine wpAnyH_take (i := 3) (v := ?vvx33) (by simp only [List.getElem?_toArray, List.getElem?_cons_zero, List.getElem?_cons_succ]; exact rfl) (by kernel_rfl) (by kernel_rfl) (by kernel_rfl) ?hqx33 (Or.inl ⟨by rfl, ?hyx33⟩) (by assumption) ?restx33
          case hyx33 => (intro w hSw; (try dsimp only at hSw); go_simp; try (with_reducible rfl))
          case hqx33 => exact fun _ _ _ h => h
          try simp only [Act.put, List.setIfInBounds_toArray, List.set_cons_zero, List.set_cons_succ]
          refine wpAnyH_take (i := 4) (v := undef) (by simp only [List.getElem?_toArray, List.getElem?_cons_zero, List.getElem?_cons_succ]; exact rfl) (by kernel_rfl) (by kernel_rfl) (by kernel_rfl) ?hqx34 (Or.inr ⟨by rfl, rfl⟩) (by assumption) ?restx34
          case hqx34 => exact fun _ _ _ h => h
          try simp only [Act.put, List.setIfInBounds_toArray, List.set_cons_zero, List.set_cons_succ]
          refine wpAnyH_take (i := 5) (v := undef) (by simp only [List.getElem?_toArray, List.getElem?_cons_zero, List.getElem?_cons_succ]; exact rfl) (by kernel_rfl) (by kernel_rfl) (by kernel_rfl) ?hqx35 (Or.inr ⟨by rfl, rfl⟩) (by assumption) ?restx35
          case hqx35 => exact fun _ _ _ h => h
          try simp only [Act.put, List.setIfInBounds_toArray, List.set_cons_zero, List.set_cons_succ]
          refine wpAnyH_take (i := 6) (v := ?vvx36) (by simp only [List.getElem?_toArray, List.getElem?_cons_zero, List.getElem?_cons_succ]; exact rfl) (by kernel_rfl) (by kernel_rfl) (by kernel_rfl) ?hqx36 (Or.inl ⟨by rfl, ?hyx36⟩) (by assumption) ?restx36
          case hyx36 => (intro w hSw; (try dsimp only at hSw); go_simp; try (with_reducible rfl))
          case hqx36 => exact fun _ _ _ h => h
          try simp only [Act.put, List.setIfInBounds_toArray, List.set_cons_zero, List.set_cons_succ]
          refine wpAnyH_ready (rs := [9]) (by kernel_rfl) (by simp) ?_
          refine AllReadyH.cons (by simp only [List.getElem?_toArray, List.getElem?_cons_zero, List.getElem?_cons_succ]; exact rfl) (fun K hK => ?_) AllReadyH.nil
          go_simp
          refine hK.out _ _ ?_ (fun hHeld => ?_)
          · (try dsimp only); (first | go_keep | (go_split_ands; refine ⟨?_, ?_, ?_⟩ <;> (first | exact cell_keep hb2 (by assumption) | exact cell_keep hb1 (by assumption))))
          clear hK K
          try simp only [Act.put, List.setIfInBounds_toArray, List.set_cons_zero, List.set_cons_succ]
          refine wpAnyH_ready (rs := [10]) (by kernel_rfl) (by simp) ?_
          refine AllReadyH.cons (by simp only [List.getElem?_toArray, List.getElem?_cons_zero, List.getElem?_cons_succ]; exact rfl) (fun K hK => ?_) AllReadyH.nil
          go_simp
          (first | (go_at_call 98; refine (HT.out _).mono ?_; rintro e w1 ⟨rfl, hb1⟩) | (go_at_call 99; refine (i_isDay _ _).mono ?_; rintro e w' ⟨rfl, rfl⟩) | (go_at_call 86; refine (HA.out _ _ (by first | exact HSA.kept (kept_alloc (kept_trans (kept_drew (Below.refl _ _)) hb1) _) | exact HSA.kept (kept_trans (kept_drew (kept_alloc (Below.refl _ _) _)) hb1)) (by first | exact Sl.one_at (by first | rfl | simp) | exact (Sl.one_at (by first | rfl | simp)).kept (kept_trans (kept_drew (Below.refl _ _)) hb1))).mono ?_; rintro e w2 ⟨rfl, hb2⟩))
          go_wp2_with fail
          refine hK.out _ _ ?_ (fun hHeld => ?_)
          · (try dsimp only); (first | go_keep | (go_split_ands; refine ⟨?_, ?_, ?_⟩ <;> (first | exact cell_keep hb2 (by assumption) | exact cell_keep hb1 (by assumption))))
          clear hK K
          try simp only [Act.put, List.setIfInBounds_toArray, List.set_cons_zero, List.set_cons_succ]
          refine wpAnyH_take (i := 11) (v := ?vvx37) (by simp only [List.getElem?_toArray, List.getElem?_cons_zero, List.getElem?_cons_succ]; exact rfl) (by kernel_rfl) (by kernel_rfl) (by kernel_rfl) ?hqx37 (Or.inl ⟨by rfl, ?hyx37⟩) (by assumption) ?restx37
          case hyx37 => (intro w hSw; (try dsimp only at hSw); go_simp; try (with_reducible rfl))
          case hqx37 => exact fun _ _ _ h => h
          try simp only [Act.put, List.setIfInBounds_toArray, List.set_cons_zero, List.set_cons_succ]
          refine wpAnyH_done (by kernel_rfl) ?_ _
          go_wp2_with fail
          go_ret2
          exact ⟨by rw [hR.out]; rfl, (by first | exact kept_trans KB (kept_trans (kept_alloc (kept_trans (kept_drew (Below.refl _ _)) hb1) _) hb2) | exact kept_trans KB (kept_trans (kept_trans (kept_drew (kept_alloc (Below.refl _ _) _)) hb1) hb2))⟩
        · go_simp
          refine hK.out _ _ ?_ (fun hHeld => ?_)
          · (try dsimp only); (first | go_keep | (go_split_ands; refine ⟨?_, ?_, ?_⟩ <;> (first | exact cell_keep hb2 (by assumption) | exact cell_keep hb1 (by assumption))))
          clear hK K
          try simp only [Act.put, List.setIfInBounds_toArray, List.set_cons_zero, List.set_cons_succ]
          refine wpAnyH_ready (rs := [2]) (by kernel_rfl) (by simp) ?_
          refine AllReadyH.cons (by simp only [List.getElem?_toArray, List.getElem?_cons_zero, List.getElem?_cons_succ]; exact rfl) (fun K hK => ?_) AllReadyH.nil
          go_simp
          (first | (go_at_call 98; refine (HT.out _).mono ?_; rintro e w1 ⟨rfl, hb1⟩) | (go_at_call 99; refine (i_isDay _ _).mono ?_; rintro e w' ⟨rfl, rfl⟩) | (go_at_call 86; refine (HA.out _ _ (by first | exact HSA.kept (kept_alloc (kept_trans (kept_drew (Below.refl _ _)) hb1) _) | exact HSA.kept (kept_trans (kept_drew (kept_alloc (Below.refl _ _) _)) hb1)) (by first | exact Sl.one_at (by first | rfl | simp) | exact (Sl.one_at (by first | rfl | simp)).kept (kept_trans (kept_drew (Below.refl _ _)) hb1))).mono ?_; rintro e w2 ⟨rfl, hb2⟩))
          go_wp2_with fail
          refine hK.out _ _ ?_ (fun hHeld => ?_)
          · (try dsimp only); (first | go_keep | (go_split_ands; refine ⟨?_, ?_, ?_⟩ <;> (first | exact cell_keep hb2 (by assumption) | exact cell_keep hb1 (by assumption))))
          clear hK K
          try simp only [Act.put, List.setIfInBounds_toArray, List.set_cons_zero, List.set_cons_succ]
          refine wpAnyH_take (i := 3) (v := ?vvx38) (by simp only [List.getElem?_toArray, List.getElem?_cons_zero, List.getElem?_cons_succ]; exact rfl) (by kernel_rfl) (by kernel_rfl) (by kernel_rfl) ?hqx38 (Or.inl ⟨by rfl, ?hyx38⟩) (by assumption) ?restx38
          case hyx38 => (intro w hSw; (try dsimp only at hSw); go_simp; try (with_reducible rfl))
          case hqx38 => exact fun _ _ _ h => h
          try simp only [Act.put, List.setIfInBounds_toArray, List.set_cons_zero, List.set_cons_succ]
          refine wpAnyH_take (i := 4) (v := undef) (by simp only [List.getElem?_toArray, List.getElem?_cons_zero, List.getElem?_cons_succ]; exact rfl) (by kernel_rfl) (by kernel_rfl) (by kernel_rfl) ?hqx39 (Or.inr ⟨by rfl, rfl⟩) (by assumption) ?restx39
          case hqx39 => exact fun _ _ _ h => h
          try simp only [Act.put, List.setIfInBounds_toArray, List.set_cons_zero, List.set_cons_succ]
          refine wpAnyH_take (i := 5) (v := undef) (by simp only [List.getElem?_toArray, List.getElem?_cons_zero, List.getElem?_cons_succ]; exact rfl) (by kernel_rfl) (by kernel_rfl) (by kernel_rfl) ?hqx40 (Or.inr ⟨by rfl, rfl⟩) (by assumption) ?restx40
          case hqx40 => exact fun _ _ _ h => h
          try simp only [Act.put, List.setIfInBounds_toArray, List.set_cons_zero, List.set_cons_succ]
          refine wpAnyH_take (i := 6) (v := ?vvx41) (by simp only [List.getElem?_toArray, List.getElem?_cons_zero, List.getElem?_cons_succ]; exact rfl) (by kernel_rfl) (by kernel_rfl) (by kernel_rfl) ?hqx41 (Or.inl ⟨by rfl, ?hyx41⟩) (by assumption) ?restx41
          case hyx41 => (intro w hSw; (try dsimp only at hSw); go_simp; try (with_reducible rfl))
          case hqx41 => exact fun _ _ _ h => h
          try simp only [Act.put, List.setIfInBounds_toArray, List.set_cons_zero, List.set_cons_succ]
          refine wpAnyH_ready (rs := [10]) (by kernel_rfl) (by simp) ?_
          refine AllReadyH.cons (by simp only [List.getElem?_toArray, List.getElem?_cons_zero, List.getElem?_cons_succ]; exact rfl) (fun K hK => ?_) AllReadyH.nil
          go_simp
          (first | (go_at_call 98; refine (HT.out _).mono ?_; rintro e w1 ⟨rfl, hb1⟩) | (go_at_call 99; refine (i_isDay _ _).mono ?_; rintro e w' ⟨rfl, rfl⟩) | (go_at_call 86; refine (HA.out _ _ (by first | exact HSA.kept (kept_alloc (kept_trans (kept_drew (Below.refl _ _)) hb1) _) | exact HSA.kept (kept_trans (kept_drew (kept_alloc (Below.refl _ _) _)) hb1)) (by first | exact Sl.one_at (by first | rfl | simp) | exact (Sl.one_at (by first | rfl | simp)).kept (kept_trans (kept_drew (Below.refl _ _)) hb1))).mono ?_; rintro e w2 ⟨rfl, hb2⟩))
          go_wp2_with fail
          refine hK.out _ _ ?_ (fun hHeld => ?_)
          · (try dsimp only); (first | go_keep | (go_split_ands; refine ⟨?_, ?_, ?_⟩ <;> (first | exact cell_keep hb2 (by assumption) | exact cell_keep hb1 (by assumption))))
          clear hK K
          try simp only [Act.put, List.setIfInBounds_toArray, List.set_cons_zero, List.set_cons_succ]
          refine wpAnyH_take (i := 11) (v := ?vvx42) (by simp only [List.getElem?_toArray, List.getElem?_cons_zero, List.getElem?_cons_succ]; exact rfl) (by kernel_rfl) (by kernel_rfl) (by kernel_rfl) ?hqx42 (Or.inl ⟨by rfl, ?hyx42⟩) (by assumption) ?restx42
          case hyx42 => (intro w hSw; (try dsimp only at hSw); go_simp; try (with_reducible rfl))
          case hqx42 => exact fun _ _ _ h => h
          try simp only [Act.put, List.setIfInBounds_toArray, List.set_cons_zero, List.set_cons_succ]
          refine wpAnyH_done (by kernel_rfl) ?_ _
          go_wp2_with fail
          go_ret2
          exact ⟨by rw [hR.out]; rfl, (by first | exact kept_trans KB (kept_trans (kept_alloc (kept_trans (kept_drew (Below.refl _ _)) hb1) _) hb2) | exact kept_trans KB (kept_trans (kept_trans (kept_drew (kept_alloc (Below.refl _ _) _)) hb1) hb2))⟩
    all_goals
      rw [HV.out] at HA
      rw [h1] at HT
      rcases hx3 with rfl | rfl | rfl
      all_goals
        go_enter Try.func54, Try.ntmps54
        go_wp2_with fail
        go_region_held3 (fun w' => w'.cell? ⟨W.heap.size, 0, none⟩ = some (.string id) ∧ w'.cell? ⟨W.heap.size, 1, none⟩ = some (.int .i64 bo) ∧ w'.cell? ⟨W.heap.size, 2, none⟩ = some (.int .i64 u)) (first | go_keep | (go_split_ands; refine ⟨?_, ?_, ?_⟩ <;> (first | exact cell_keep hb2 (by assumption) | exact cell_keep hb1 (by assumption)))) (first | (go_at_call 98; refine (HT.out _).mono ?_; rintro e w1 ⟨rfl, hb1⟩) | (go_at_call 99; refine (i_isDay _ _).mono ?_; rintro e w' ⟨rfl, rfl⟩) | (go_at_call 86; refine (HA.out _ _ (by first | exact HSA.kept (kept_alloc (kept_trans (kept_drew (Below.refl _ _)) hb1) _) | exact HSA.kept (kept_trans (kept_drew (kept_alloc (Below.refl _ _) _)) hb1)) (by first | exact Sl.one_at (by first | rfl | simp) | exact (Sl.one_at (by first | rfl | simp)).kept (kept_trans (kept_drew (Below.refl _ _)) hb1))).mono ?_; rintro e w2 ⟨rfl, hb2⟩))
        all_goals
          go_wp2_with fail
          go_ret2
          exact ⟨by rw [hR.out]; rfl, (by first | exact kept_trans KB (kept_trans (kept_alloc (kept_trans (kept_drew (Below.refl _ _)) hb1) _) hb2) | exact kept_trans KB (kept_trans (kept_trans (kept_drew (kept_alloc (Below.refl _ _) _)) hb1) hb2))⟩
  · have hR := Lib.hid (ofFare_yes (f := tlF bo u day) hc hf0)
    have HA := Lib.hid (HA.out (vt && inB day 0 36524))
    have HFo := Lib.hid (fun w hs => i_fareOf_yes (b := b) (c := c) (d := d) hf0 (.slice ao n cap) w hs)
    rw [hc, hfine] at HA
    simp only [Bool.and_eq_true] at hfine
    obtain ⟨h1, h2⟩ := hfine
    obtain ⟨-, hbo, hu⟩ := HTK h1
    have hday := inB_out h2
    rw [h1] at HT
    clear hc hf0 hok HTK
    have HG := Lib.hid (fun w => i_isGood (a k) id (b k) (c k) (d k) bo u day w hbo hday)
    cases hgd : tgood bo u (c k) (d k) day
    · have hR2 := Lib.hid (hR.out.trans (tlF_no (b := b k) hgd))
      rw [hgd] at HG
      clear hR hgd
      go_enter Try.func54, Try.ntmps54
      go_wp2_with fail
      go_region_held3 (fun w' => w'.cell? ⟨W.heap.size, 0, none⟩ = some (.string id) ∧ w'.cell? ⟨W.heap.size, 1, none⟩ = some (.int .i64 bo) ∧ w'.cell? ⟨W.heap.size, 2, none⟩ = some (.int .i64 u)) (first | go_keep | (go_split_ands; refine ⟨?_, ?_, ?_⟩ <;> (first | exact cell_keep hb2 (by assumption) | exact cell_keep hb1 (by assumption)))) (first | (go_at_call 98; refine (HT.out _).mono ?_; rintro e w1 ⟨rfl, hb1⟩) | (go_at_call 99; refine (i_isDay _ _).mono ?_; rintro e w' ⟨rfl, rfl⟩) | (go_at_call 86; refine (HA.out _ _ (by first | exact HSA.kept (kept_alloc (kept_trans (kept_drew (Below.refl _ _)) hb1) _) | exact HSA.kept (kept_trans (kept_drew (kept_alloc (Below.refl _ _) _)) hb1)) (by first | exact Sl.one_at (by first | rfl | simp) | exact (Sl.one_at (by first | rfl | simp)).kept (kept_trans (kept_drew (Below.refl _ _)) hb1))).mono ?_; rintro e w2 ⟨rfl, hb2⟩))
      all_goals
        have KW := (by first | exact kept_trans KB (kept_trans (kept_alloc (kept_trans (kept_drew (Below.refl _ _)) hb1) _) hb2) | exact kept_trans KB (kept_trans (kept_trans (kept_drew (kept_alloc (Below.refl _ _) _)) hb1) hb2))
        have HSW := HSA.kept (by first | exact kept_trans (kept_alloc (kept_trans (kept_drew (Below.refl _ _)) hb1) _) hb2 | exact kept_trans (kept_trans (kept_drew (kept_alloc (Below.refl _ _) _)) hb1) hb2)
        have r0 : w2.cell? ⟨W.heap.size, 0, none⟩ = some (.string id) := cell_keep (by first | exact kept_trans (kept_alloc (kept_trans (kept_drew (Below.refl _ _)) hb1) _) hb2 | exact kept_trans (kept_trans (kept_drew (kept_alloc (Below.refl _ _) _)) hb1) hb2) Q0.out
        have r1 : w2.cell? ⟨W.heap.size, 1, none⟩ = some (.int .i64 bo) := cell_keep (by first | exact kept_trans (kept_alloc (kept_trans (kept_drew (Below.refl _ _)) hb1) _) hb2 | exact kept_trans (kept_trans (kept_drew (kept_alloc (Below.refl _ _) _)) hb1) hb2) Q1.out
        have r2 : w2.cell? ⟨W.heap.size, 2, none⟩ = some (.int .i64 u) := cell_keep (by first | exact kept_trans (kept_alloc (kept_trans (kept_drew (Below.refl _ _)) hb1) _) hb2 | exact kept_trans (kept_trans (kept_drew (kept_alloc (Below.refl _ _) _)) hb1) hb2) Q2.out
        go_wp2_with (first | (go_at_call 87; refine (HFo.out _ HSW).mono ?_; rintro e w3 ⟨rfl, hb3⟩; have s0 := cell_keep (kept_alloc hb3 (.cells #[.string (a k), .int .i64 (b k), .int .i64 (c k), .int .i64 (d k)] 101)) r0; have s1 := cell_keep (kept_alloc hb3 (.cells #[.string (a k), .int .i64 (b k), .int .i64 (c k), .int .i64 (d k)] 101)) r1; have s2 := cell_keep (kept_alloc hb3 (.cells #[.string (a k), .int .i64 (b k), .int .i64 (c k), .int .i64 (d k)] 101)) r2) | (go_at_call 100; refine (HG.out _).mono ?_; rintro e w4 ⟨rfl, hb4⟩))
        go_ret2
        exact ⟨by rw [hR2.out]; rfl, kept_trans (kept_alloc (kept_trans KW hb3) _) hb4⟩
    · have hR2 := Lib.hid (hR.out.trans (tlF_yes (b := b k) hgd))
      rw [hgd] at HG
      clear hR hgd
      have e1 : IntKind.i64.wrap (c k - u) = c k - u := IntWalk.i64_in _ (by omega)
      go_enter Try.func54, Try.ntmps54
      go_wp2_with fail
      go_region_held3 (fun w' => w'.cell? ⟨W.heap.size, 0, none⟩ = some (.string id) ∧ w'.cell? ⟨W.heap.size, 1, none⟩ = some (.int .i64 bo) ∧ w'.cell? ⟨W.heap.size, 2, none⟩ = some (.int .i64 u)) (first | go_keep | (go_split_ands; refine ⟨?_, ?_, ?_⟩ <;> (first | exact cell_keep hb2 (by assumption) | exact cell_keep hb1 (by assumption)))) (first | (go_at_call 98; refine (HT.out _).mono ?_; rintro e w1 ⟨rfl, hb1⟩) | (go_at_call 99; refine (i_isDay _ _).mono ?_; rintro e w' ⟨rfl, rfl⟩) | (go_at_call 86; refine (HA.out _ _ (by first | exact HSA.kept (kept_alloc (kept_trans (kept_drew (Below.refl _ _)) hb1) _) | exact HSA.kept (kept_trans (kept_drew (kept_alloc (Below.refl _ _) _)) hb1)) (by first | exact Sl.one_at (by first | rfl | simp) | exact (Sl.one_at (by first | rfl | simp)).kept (kept_trans (kept_drew (Below.refl _ _)) hb1))).mono ?_; rintro e w2 ⟨rfl, hb2⟩))
      all_goals
        have KW := (by first | exact kept_trans KB (kept_trans (kept_alloc (kept_trans (kept_drew (Below.refl _ _)) hb1) _) hb2) | exact kept_trans KB (kept_trans (kept_trans (kept_drew (kept_alloc (Below.refl _ _) _)) hb1) hb2))
        have HSW := HSA.kept (by first | exact kept_trans (kept_alloc (kept_trans (kept_drew (Below.refl _ _)) hb1) _) hb2 | exact kept_trans (kept_trans (kept_drew (kept_alloc (Below.refl _ _) _)) hb1) hb2)
        have r0 : w2.cell? ⟨W.heap.size, 0, none⟩ = some (.string id) := cell_keep (by first | exact kept_trans (kept_alloc (kept_trans (kept_drew (Below.refl _ _)) hb1) _) hb2 | exact kept_trans (kept_trans (kept_drew (kept_alloc (Below.refl _ _) _)) hb1) hb2) Q0.out
        have r1 : w2.cell? ⟨W.heap.size, 1, none⟩ = some (.int .i64 bo) := cell_keep (by first | exact kept_trans (kept_alloc (kept_trans (kept_drew (Below.refl _ _)) hb1) _) hb2 | exact kept_trans (kept_trans (kept_drew (kept_alloc (Below.refl _ _) _)) hb1) hb2) Q1.out
        have r2 : w2.cell? ⟨W.heap.size, 2, none⟩ = some (.int .i64 u) := cell_keep (by first | exact kept_trans (kept_alloc (kept_trans (kept_drew (Below.refl _ _)) hb1) _) hb2 | exact kept_trans (kept_trans (kept_drew (kept_alloc (Below.refl _ _) _)) hb1) hb2) Q2.out
        go_wp2_with (first | (go_at_call 87; refine (HFo.out _ HSW).mono ?_; rintro e w3 ⟨rfl, hb3⟩; have s0 := cell_keep (kept_alloc hb3 (.cells #[.string (a k), .int .i64 (b k), .int .i64 (c k), .int .i64 (d k)] 101)) r0; have s1 := cell_keep (kept_alloc hb3 (.cells #[.string (a k), .int .i64 (b k), .int .i64 (c k), .int .i64 (d k)] 101)) r1; have s2 := cell_keep (kept_alloc hb3 (.cells #[.string (a k), .int .i64 (b k), .int .i64 (c k), .int .i64 (d k)] 101)) r2) | (go_at_call 100; refine (HG.out _).mono ?_; rintro e w4 ⟨rfl, hb4⟩; have y2 : w4.cell? ⟨w3.heap.size, 2, none⟩ = some (.int .i64 (c k)) := cell_keep hb4 (boxed_at rfl rfl); have p2 : w4.cell? ⟨W.heap.size, 2, none⟩ = some (.int .i64 u) := cell_keep hb4 s2))
        go_ret2
        exact ⟨by rw [hR2.out]; rfl, kept_trans (kept_alloc (kept_trans KW hb3) _) hb4⟩

theorem l_TicketLeft {W : World} (v : Value) (n : Nat) (a : Nat → ByteArray) (b c d : Nat → Int) (hs : Sl W v 4 n (gc a b c d)) (hx : Hid (∀ i, i < n → ((a i).size : Int) ≤ 9223372036854775807)) (id : ByteArray) (bo u day : Int) (hc : (id.size : Int) ≤ 9223372036854775807) : Calls Try.prog 13 #[v, .agg #[.string id, .int .i64 bo, .int .i64 u], .int .i64 day] W (Truly W) :=
  l_TicketLeft_of v n a b c d id bo u day hs hx hc _ _ (fun w q h hl hi => s_TicketLeft q n a b c d id bo u day w h hl hi) (fun w q h hl hi => i_TicketLeft q n a b c d id bo u day w h hl hi)

end Go.Proofs.Ytfnollbeeehpnaa
