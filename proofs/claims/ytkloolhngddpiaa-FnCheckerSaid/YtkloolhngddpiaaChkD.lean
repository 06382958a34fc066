/- The controller's functions at states as numbers; finding a state. -/
import Derived.Test.YtkloolhngddpiaaChkA
import Derived.Test.YtkloolhngddpiaaChkB
import Derived.Test.YtkloolhngddpiaaChkC
import Derived.Deep.QuietTactic
import Derived.BigQuiet
namespace Go.Proofs.Ytkloolhngddpiaa
open Go.RowKit Go.Deep
set_option linter.unusedVariables false
set_option maxRecDepth 100000

theorem cm_ok : all80 (fun c => Nat.blt (cm c) 5 && Nat.beq (enc (cm c) (co c) (ca c) (cb c) (ce c)) c) 80 = true := by decide +kernel
theorem cm_lt {c : Nat} (h : c < 80) : cm c < 5 := by
  have := all80_out cm_ok c h
  simp only [Bool.and_eq_true, Nat.blt_eq] at this
  exact this.1
theorem enc_c {c : Nat} (h : c < 80) : enc (cm c) (co c) (ca c) (cb c) (ce c) = c := by
  have := all80_out cm_ok c h
  simp only [Bool.and_eq_true] at this
  exact Nat.eq_of_beq_eq_true this.2
theorem nx_lt {c k : Nat} (h : c < 80) (hk : k < 10) : nx c k < 80 := by
  have := upto_out (all80_out nx_ok c h) k hk
  simpa using this

theorem i_isAllowed (c k : Nat) (W : World) (hc : c < 80) (hk : 1 ≤ k ∧ k ≤ 9) :
    Calls Try.prog 127 #[.agg #[.int .i64 (cm c : Nat), .bool (co c), .bool (ca c), .bool (cb c), .bool (ce c)], .int .i64 (k : Nat)] W fun en W' => en = .returned (.bool (al c k)) ∧ Below W.heap.size W W' := by
  obtain ⟨j, rfl⟩ : ∃ j, k = j + 1 := ⟨k - 1, by omega⟩
  exact i_isAllowed_at (cm c) (co c) (ca c) (cb c) (ce c) j W (cm_lt hc) (by omega)

theorem i_after (c k : Nat) (W : World) (hc : c < 80) (hk : 1 ≤ k ∧ k ≤ 9) :
    Calls Try.prog 118 #[.agg #[.int .i64 (cm c : Nat), .bool (co c), .bool (ca c), .bool (cb c), .bool (ce c)], .int .i64 (k : Nat)] W fun en W' => en = .returned (.agg #[.int .i64 (cm (nx c k) : Nat), .bool (co (nx c k)), .bool (ca (nx c k)), .bool (cb (nx c k)), .bool (ce (nx c k))]) ∧ Below W.heap.size W W' := by
  obtain ⟨j, rfl⟩ : ∃ j, k = j + 1 := ⟨k - 1, by omega⟩
  exact i_after_at (cm c) (co c) (ca c) (cb c) (ce c) j W (cm_lt hc) (by omega)

theorem s_l13Next_yes (c k : Nat) (W : World) (hc : c < 80) (hk : 1 ≤ k ∧ k ≤ 9) (ha : al c k = true) :
    Calls Try.prog 104 #[.agg #[.int .i64 (cm c : Nat), .bool (co c), .bool (ca c), .bool (cb c), .bool (ce c)], .int .i64 (k : Nat)] W fun en W' => en = .returned (.tuple #[.agg #[.int .i64 (cm (nx c k) : Nat), .bool (co (nx c k)), .bool (ca (nx c k)), .bool (cb (nx c k)), .bool (ce (nx c k))], .bool true]) ∧ Below W.heap.size W W' := by
  obtain ⟨j, rfl⟩ : ∃ j, k = j + 1 := ⟨k - 1, by omega⟩
  have h := s_l13Next_at (cm c) (co c) (ca c) (cb c) (ce c) j W (cm_lt hc) (by omega)
  rw [show alN (cm c) (co c) (ca c) (cb c) (ce c) (j + 1) = true from ha] at h
  exact h
theorem s_l13Next_no (c k : Nat) (W : World) (hc : c < 80) (hk : 1 ≤ k ∧ k ≤ 9) (ha : al c k = false) :
    Calls Try.prog 104 #[.agg #[.int .i64 (cm c : Nat), .bool (co c), .bool (ca c), .bool (cb c), .bool (ce c)], .int .i64 (k : Nat)] W fun en W' => en = .returned (.tuple #[.agg #[.int .i64 (cm c : Nat), .bool (co c), .bool (ca c), .bool (cb c), .bool (ce c)], .bool false]) ∧ Below W.heap.size W W' := by
  obtain ⟨j, rfl⟩ : ∃ j, k = j + 1 := ⟨k - 1, by omega⟩
  have h := s_l13Next_at (cm c) (co c) (ca c) (cb c) (ce c) j W (cm_lt hc) (by omega)
  rw [show alN (cm c) (co c) (ca c) (cb c) (ce c) (j + 1) = false from ha] at h
  simp only [cond_false] at h
  rw [enc_c hc] at h
  exact h

/-- Two states by their numbers. -/
theorem st_ne {c y : Nat} (hc : c < 80) (hy : y < 80) (h : c ≠ y) : ((cm c : Int) == cm y) = false ∨ (((cm c : Int) == cm y) = true ∧ ((co c == co y) = false ∨ (co c == co y) = true ∧ ((ca c == ca y) = false ∨ (ca c == ca y) = true ∧ ((cb c == cb y) = false ∨ (cb c == cb y) = true ∧ (ce c == ce y) = false)))) := by
  cases h1 : ((cm c : Int) == cm y)
  · exact .inl rfl
  · refine .inr ⟨rfl, ?_⟩
    cases h2 : co c == co y
    · exact .inl rfl
    · refine .inr ⟨rfl, ?_⟩
      cases h3 : ca c == ca y
      · exact .inl rfl
      · refine .inr ⟨rfl, ?_⟩
        cases h4 : cb c == cb y
        · exact .inl rfl
        · refine .inr ⟨rfl, ?_⟩
          cases h5 : ce c == ce y
          · rfl
          · exfalso
            apply h
            rw [← enc_c hc, ← enc_c hy]
            simp only [beq_iff_eq] at h1 h2 h3 h4 h5
            rw [show cm c = cm y by omega, h2, h3, h4, h5]

theorem st_eql_no {c y : Nat} (hc : c < 80) (hy : y < 80) (h : c ≠ y) (w : World) :
    (Go.binOp .eql 53 (.agg #[.int .i64 (cm c : Nat), .bool (co c), .bool (ca c), .bool (cb c), .bool (ce c)]) (.agg #[.int .i64 (cm y : Nat), .bool (co y), .bool (ca y), .bool (cb y), .bool (ce y)])).run Try.prog w = .ok (.bool false) w := by
  rcases st_ne hc hy h with h1 | ⟨h1, h2 | ⟨h2, h3 | ⟨h3, h4 | ⟨h4, h5⟩⟩⟩⟩
  all_goals
    rw [run_eql_struct]
    simp [go_sem, *]

theorem s_l15Find (v : Value) (n y : Nat) (L : List Nat) (W : World) (hs : Sl W v 5 n (stc L)) (hl : L.length = n) (hn : n ≤ 100) (hy : y < 80) (hL : Hid (∀ i, i < n → nth L i < 80)) :
    Calls Try.prog 92 #[v, .agg #[.int .i64 (cm y : Nat), .bool (co y), .bool (ca y), .bool (cb y), .bool (ce y)]] W fun en W' => en = .returned (.int .i64 (fi L y)) ∧ Below W.heap.size W W' := by
  obtain ⟨-, ao, cap, rfl, hr⟩ := hs
  have HLL := Lib.hid hl
  clear hl
  rcases hr with h0 | ⟨g, off, rfl, hr⟩
  · have hF : Hid (fi L y = -1) := fi_no (fun i hi => by have := HLL.out; omega)
    have h0' : n ≤ 0 := by omega
    clear h0
    go_enter Try.func92, Try.ntmps92
    go_wp2
    refine wp_loop_rounds 1 ?_
    rw [rounds_succ]
    go_wp2
    go_ret
    exact ⟨by rw [hF.out]; rfl, (by repeat (first | assumption | exact Below.refl _ _ | refine kept_drew ?_ | refine kept_drewN ?_ _ | refine kept_alloc ?_ _ | refine kept_set ?_ ?_ _ | (simp; done) | (simp; omega) | refine kept_trans ?_ (by assumption)))⟩
  · have KB := kept_alloc (Below.refl W.heap.size W) (.cells #[.int .i64 (cm y : Nat), .bool (co y), .bool (ca y), .bool (cb y), .bool (ce y)] 53)
    obtain ⟨WB, hWB⟩ : ∃ WB, WB = W.alloc (.cells #[.int .i64 (cm y : Nat), .bool (co y), .bool (ca y), .bool (cb y), .bool (ce y)] 53) := ⟨_, rfl⟩
    have Q0 : Hid (WB.cell? ⟨W.heap.size, 0, none⟩ = some (.int .i64 (cm y : Nat))) := by rw [hWB]; exact boxed_at rfl rfl
    have Q1 : Hid (WB.cell? ⟨W.heap.size, 1, none⟩ = some (.bool (co y))) := by rw [hWB]; exact boxed_at rfl rfl
    have Q2 : Hid (WB.cell? ⟨W.heap.size, 2, none⟩ = some (.bool (ca y))) := by rw [hWB]; exact boxed_at rfl rfl
    have Q3 : Hid (WB.cell? ⟨W.heap.size, 3, none⟩ = some (.bool (cb y))) := by rw [hWB]; exact boxed_at rfl rfl
    have Q4 : Hid (WB.cell? ⟨W.heap.size, 4, none⟩ = some (.bool (ce y))) := by rw [hWB]; exact boxed_at rfl rfl
    rw [← hWB] at KB
    have HR := Lib.hid (hr.kept KB)
    have HWB := Lib.hid hWB
    clear hWB hr
    go_enter Try.func92, Try.ntmps92
    go_wp2
    rw [← HWB.out]
    go_loopw [5] (fun i wr => ∃ k : Nat, k ≤ n ∧ i = .int .i64 k ∧ Below WB.heap.size WB wr ∧ Hid (∀ i, i < k → nth L i ≠ y)) (fun i _ => n - (intOf i).toNat)
    case atStart => exact ⟨0, Nat.zero_le _, rfl, Below.refl _ _, fun i hi => absurd hi (by omega)⟩
    case round =>
      obtain ⟨k, hk, rfl, hb, hno⟩ := hrel
      by_cases hlt : k < n
      · obtain ⟨c, hc⟩ : ∃ c, nth L k = c := ⟨_, rfl⟩
        obtain ⟨s0, s1, s2, s3, s4⟩ := stcells (HR.out.kept hb) hlt hc
        have q0 := cell_keep hb Q0.out
        have q1 := cell_keep hb Q1.out
        have q2 := cell_keep hb Q2.out
        have q3 := cell_keep hb Q3.out
        have q4 := cell_keep hb Q4.out
        by_cases hcy : c = y
        · subst hcy
          have hF : Hid (fi L c = k) := fi_at (by have := HLL.out; omega) hc hno.out
          clear hc
          go_wp2_with fail
          go_quiet (fail)
          go_wp2_with fail
          go_ret
          exact ⟨by rw [hF.out]; rfl, kept_trans KB (kept_drewN hb _)⟩
        · have he := st_eql_no (by have := hL.out k hlt; omega) hy hcy
          have HN : Hid (∀ i, i < k + 1 → nth L i ≠ y) := fun i hi => by
            by_cases e : i = k
            · rw [e, hc]; exact hcy
            · exact hno.out i (by omega)
          clear hc hcy
          go_wp2_with fail
          go_quiet (fail)
          clear he
          go_wp2_with fail
          go_roundw
          case rel => exact ⟨k + 1, by omega, by go_num, kept_drewN hb _, HN⟩
          case measure => simp [intOf]; omega
      · obtain rfl : k = n := by omega
        have hF : Hid (fi L y = -1) := fi_no (fun i hi => hno.out i (by have := HLL.out; omega))
        go_wp2
        go_ret
        exact ⟨by rw [hF.out]; rfl, kept_trans KB hb⟩

theorem i_Index (v : Value) (n y : Nat) (L : List Nat) (W : World) (hs : Sl W v 5 n (stc L)) (hl : L.length = n) (hn : n ≤ 100) (hy : y < 80) (hL : Hid (∀ i, i < n → nth L i < 80)) :
    Calls Try.prog 94 #[v, .agg #[.int .i64 (cm y : Nat), .bool (co y), .bool (ca y), .bool (cb y), .bool (ce y)]] W fun en W' => en = .returned (.int .i64 (fi L y)) ∧ Below W.heap.size W W' := by
  obtain ⟨-, ao, cap, rfl, hr⟩ := hs
  have HLL := Lib.hid hl
  clear hl
  rcases hr with h0 | ⟨g, off, rfl, hr⟩
  · have hF : Hid (fi L y = -1) := fi_no (fun i hi => by have := HLL.out; omega)
    have h0' : n ≤ 0 := by omega
    clear h0
    go_enter Try.func94, Try.ntmps94
    go_wp2
    refine wp_loop_rounds 1 ?_
    rw [rounds_succ]
    go_wp2
    go_ret
    exact ⟨by rw [hF.out]; rfl, (by repeat (first | assumption | exact Below.refl _ _ | refine kept_drew ?_ | refine kept_drewN ?_ _ | refine kept_alloc ?_ _ | refine kept_set ?_ ?_ _ | (simp; done) | (simp; omega) | refine kept_trans ?_ (by assumption)))⟩
  · have KB := kept_alloc (Below.refl W.heap.size W) (.cells #[.int .i64 (cm y : Nat), .bool (co y), .bool (ca y), .bool (cb y), .bool (ce y)] 53)
    obtain ⟨WB, hWB⟩ : ∃ WB, WB = W.alloc (.cells #[.int .i64 (cm y : Nat), .bool (co y), .bool (ca y), .bool (cb y), .bool (ce y)] 53) := ⟨_, rfl⟩
    have Q0 : Hid (WB.cell? ⟨W.heap.size, 0, none⟩ = some (.int .i64 (cm y : Nat))) := by rw [hWB]; exact boxed_at rfl rfl
    have Q1 : Hid (WB.cell? ⟨W.heap.size, 1, none⟩ = some (.bool (co y))) := by rw [hWB]; exact boxed_at rfl rfl
    have Q2 : Hid (WB.cell? ⟨W.heap.size, 2, none⟩ = some (.bool (ca y))) := by rw [hWB]; exact boxed_at rfl rfl
    have Q3 : Hid (WB.cell? ⟨W.heap.size, 3, none⟩ = some (.bool (cb y))) := by rw [hWB]; exact boxed_at rfl rfl
    have Q4 : Hid (WB.cell? ⟨W.heap.size, 4, none⟩ = some (.bool (ce y))) := by rw [hWB]; exact boxed_at rfl rfl
    rw [← hWB] at KB
    have HR := Lib.hid (hr.kept KB)
    have HWB := Lib.hid hWB
    clear hWB hr
    go_enter Try.func94, Try.ntmps94
    go_wp2
    rw [← HWB.out]
    go_loopw [8] (fun i wr => ∃ k : Nat, k ≤ n ∧ i = .int .i64 k ∧ Below WB.heap.size WB wr ∧ Hid (∀ i, i < k → nth L i ≠ y)) (fun i _ => n - (intOf i).toNat)
    case atStart => exact ⟨0, Nat.zero_le _, rfl, Below.refl _ _, fun i hi => absurd hi (by omega)⟩
    case round =>
      obtain ⟨k, hk, rfl, hb, hno⟩ := hrel
      by_cases hlt : k < n
      · obtain ⟨c, hc⟩ : ∃ c, nth L k = c := ⟨_, rfl⟩
        obtain ⟨s0, s1, s2, s3, s4⟩ := stcells (HR.out.kept hb) hlt hc
        have q0 := cell_keep hb Q0.out
        have q1 := cell_keep hb Q1.out
        have q2 := cell_keep hb Q2.out
        have q3 := cell_keep hb Q3.out
        have q4 := cell_keep hb Q4.out
        by_cases hcy : c = y
        · subst hcy
          have hF : Hid (fi L c = k) := fi_at (by have := HLL.out; omega) hc hno.out
          clear hc
          go_wp2_with fail
          go_quiet (fail)
          go_wp2_with fail
          go_ret
          exact ⟨by rw [hF.out]; rfl, kept_trans KB (kept_drewN hb _)⟩
        · have he := st_eql_no hy (by have := hL.out k hlt; omega) (fun e => hcy e.symm)
          have HN : Hid (∀ i, i < k + 1 → nth L i ≠ y) := fun i hi => by
            by_cases e : i = k
            · rw [e, hc]; exact hcy
            · exact hno.out i (by omega)
          clear hc hcy
          go_wp2_with fail
          go_quiet (fail)
          clear he
          go_wp2_with fail
          go_roundw
          case rel => exact ⟨k + 1, by omega, by go_num, kept_drewN hb _, HN⟩
          case measure => simp [intOf]; omega
      · obtain rfl : k = n := by omega
        have hF : Hid (fi L y = -1) := fi_no (fun i hi => hno.out i (by have := HLL.out; omega))
        go_wp2
        go_ret
        exact ⟨by rw [hF.out]; rfl, kept_trans KB hb⟩

end Go.Proofs.Ytkloolhngddpiaa
