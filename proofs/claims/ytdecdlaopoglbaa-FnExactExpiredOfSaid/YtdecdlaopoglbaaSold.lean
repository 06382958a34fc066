/- Tickets that are sold: the meaning, and what the reference and the program ask of them. -/
import Derived.Test.YtdecdlaopoglbaaTick
import Derived.Test.YtdecdlaopoglbaaTickets
import Derived.Test.YtdecdlaopoglbaaGLawX
import Derived.Deep.DeepCutAuto
namespace Go.Proofs.Ytdecdlaopoglbaa
open Go.RowKit Go.Deep
set_option linter.unusedVariables false
set_option maxRecDepth 100000

/-- The tickets are as they have to be. -/
def soldB (m : Nat) (t : Nat → ByteArray) (bo us : Nat → Int) : Bool := allTo (fun i => vTk (t i) (bo i) (us i)) m && decide (m ≤ 100)
theorem soldB_no {m k : Nat} {t : Nat → ByteArray} {bo us : Nat → Int} (hk : k < m) (h : vTk (t k) (bo k) (us k) = false) : soldB m t bo us = false := by
  unfold soldB; rw [allTo_no (p := fun i => vTk (t i) (bo i) (us i)) hk h]; rfl
theorem soldB_end {m : Nat} {t : Nat → ByteArray} {bo us : Nat → Int} (h : ∀ i, i < m → vTk (t i) (bo i) (us i) = true) : soldB m t bo us = decide (m ≤ 100) := by
  unfold soldB; rw [allTo_yes (p := fun i => vTk (t i) (bo i) (us i)) h]; rfl
theorem soldB_out {m : Nat} {t : Nat → ByteArray} {bo us : Nat → Int} (h : soldB m t bo us = true) : m ≤ 100 ∧ ∀ i, i < m → vTk (t i) (bo i) (us i) = true := by
  simp only [soldB, Bool.and_eq_true, decide_eq_true_eq] at h
  exact ⟨h.2, allTo_out h.1⟩
/-- The program's fine, behind k tickets. -/
def fineTo (ok : Bool) (m : Nat) (t : Nat → ByteArray) (bo us : Nat → Int) (k : Nat) : Bool := ok && decide (m ≤ 100) && allTo (fun i => vTk (t i) (bo i) (us i)) k
theorem fineTo_end (ok : Bool) (m : Nat) (t : Nat → ByteArray) (bo us : Nat → Int) : fineTo ok m t bo us m = (ok && soldB m t bo us) := by
  unfold fineTo soldB
  cases ok <;> cases decide (m ≤ 100) <;> cases allTo (fun i => vTk (t i) (bo i) (us i)) m <;> rfl
theorem fineTo_zero (ok : Bool) (m : Nat) (t : Nat → ByteArray) (bo us : Nat → Int) : fineTo ok m t bo us 0 = (ok && decide (m ≤ 100)) := by
  unfold fineTo; cases ok <;> cases decide (m ≤ 100) <;> rfl
theorem fineTo_no {ok : Bool} {m : Nat} {t : Nat → ByteArray} {bo us : Nat → Int} {k : Nat} (h : fineTo ok m t bo us k = false) : fineTo ok m t bo us (k + 1) = false := by
  simp only [fineTo, allTo] at *
  cases h1 : ok <;> cases h2 : decide (m ≤ 100) <;> cases h3 : allTo (fun i => vTk (t i) (bo i) (us i)) k <;> simp_all
theorem fineTo_yes {ok : Bool} {m : Nat} {t : Nat → ByteArray} {bo us : Nat → Int} {k : Nat} (h : fineTo ok m t bo us k = true) : fineTo ok m t bo us (k + 1) = vTk (t k) (bo k) (us k) := by
  simp only [fineTo, allTo] at *
  cases h1 : ok <;> cases h2 : decide (m ≤ 100) <;> cases h3 : allTo (fun i => vTk (t i) (bo i) (us i)) k <;> simp_all
attribute [irreducible] soldB fineTo

theorem fcode_out {n : Nat} {a : Nat → ByteArray} {b c d : Nat → Int} {fine : Bool} {m : Nat} {t : Nat → ByteArray} (h : fcode n a b c d fine m t = 0) : fine = true ∧ n ≤ 8 ∧ ∀ i, i < m → ∃ k, k < n ∧ fidx n a (t i) = (k : Nat) ∧ (0 ≤ b k ∧ b k ≤ 100000) ∧ (1 ≤ c k ∧ c k ≤ 1000) ∧ (1 ≤ d k ∧ d k ≤ 400) := by
  cases hv : vFares n a b c d
  · rw [fcode_1 hv] at h; simp at h
  · cases fine
    · rw [fcode_2 hv] at h; simp at h
    · have ho := vFares_out hv
      refine ⟨rfl, ho.1, fun i hi => ?_⟩
      rcases fidx_cases n a (t i) with hx | ⟨k, hk, hx⟩
      · rw [fcode_3 hv hi hx] at h; simp at h
      · have h1 := vFa_out (ho.2 k hk)
        exact ⟨k, hk, hx, h1.2.1, h1.2.2.1, h1.2.2.2⟩
theorem fcode_vals (n : Nat) (a : Nat → ByteArray) (b c d : Nat → Int) (fine : Bool) (m : Nat) (t : Nat → ByteArray) : fcode n a b c d fine m t = 1 ∨ fcode n a b c d fine m t = 2 ∨ fcode n a b c d fine m t = 3 ∨ fcode n a b c d fine m t = 0 := by
  cases hv : vFares n a b c d
  · exact .inl (fcode_1 hv)
  · cases fine
    · exact .inr (.inl (fcode_2 hv))
    · unfold fcode; rw [hv]; simp only [if_true]
      split
      · exact .inr (.inr (.inr rfl))
      · exact .inr (.inr (.inl rfl))

theorem infoStr : (Try.prog.info? 9).map (fun i => (i.zero, i.size, i.bytes)) = some (some (.string ⟨#[]⟩), 1, 16) := by kernel_rfl

theorem s_l18Sold (v : Value) (m : Nat) (t : Nat → ByteArray) (bo us : Nat → Int) (W : World) (hs : Sl W v 3 m (kc t bo us)) (hx : Hid (∀ i, i < m → ((t i).size : Int) ≤ 1048576)) :
    Calls Try.prog 49 #[v] W fun e W' => e = .returned (.bool (soldB m t bo us)) ∧ Below W.heap.size W W' := by
  have HNo := Lib.hid (fun (k : Nat) (hk : k < m) h => soldB_no (t := t) (bo := bo) (us := us) hk h)
  have HE := Lib.hid (fun h => soldB_end (m := m) (t := t) (bo := bo) (us := us) h)
  obtain ⟨hn, ao, cap, rfl, hr⟩ := hs
  generalize soldB m t bo us = A at *
  go_enter Try.func49, Try.ntmps49
  go_wp2
  go_loopw [3] (fun i wr => ∃ k : Nat, k ≤ m ∧ i = .int .i64 k ∧ Below W.heap.size W wr ∧ Hid (∀ i, i < k → vTk (t i) (bo i) (us i) = true)) (fun i _ => m - (intOf i).toNat)
  case atStart => exact ⟨0, by omega, rfl, (by repeat (first | assumption | exact Below.refl _ _ | refine kept_drew ?_ | refine kept_drewN ?_ _ | refine kept_alloc ?_ _ | refine kept_set ?_ ?_ _ | (simp; done) | (simp; omega) | refine kept_trans ?_ (by assumption))), fun i hi => by omega⟩
  case round =>
    obtain ⟨k, hk, rfl, hb, hno⟩ := hrel
    by_cases hlt : k < m
    · rcases hr with h0 | ⟨g, off, rfl, hr⟩
      · omega
      obtain ⟨t0, t1, t2⟩ := kccells (hr.kept hb) hlt
      have HT := Lib.hid (s_l18Ticket (t k) (bo k) (us k) g (off + k * 3) wr (hx.out k hlt) t0 t1 t2)
      clear hr
      cases hv : vTk (t k) (bo k) (us k)
      · rw [hv] at HT
        have HX := Lib.hid (HNo.out k hlt hv)
        clear hv
        go_wp2_with (go_at_call 57; refine HT.out.mono ?_; rintro e w' ⟨rfl, rfl⟩)
        go_ret
        exact ⟨by rw [HX.out]; rfl, hb⟩
      · rw [hv] at HT
        have HN : Hid (∀ i, i < k + 1 → vTk (t i) (bo i) (us i) = true) := fun i hi => by
          by_cases e : i = k
          · rw [e]; exact hv
          · exact hno.out i (by omega)
        clear hv
        go_wp2_with (go_at_call 57; refine HT.out.mono ?_; rintro e w' ⟨rfl, rfl⟩)
        go_roundw
        case rel => exact ⟨k + 1, by omega, by go_num, hb, HN⟩
        case measure => simp [intOf]; omega
    · obtain rfl : k = m := by omega
      have HX := Lib.hid (HE.out hno.out)
      clear hr
      go_wp2
      go_ret
      exact ⟨by rw [HX.out]; exact ret_bool (by simp <;> omega), hb⟩

set_option maxHeartbeats 800000 in
theorem s_l18All (v : Value) (n : Nat) (a : Nat → ByteArray) (b c d : Nat → Int) (v2 : Value) (m : Nat) (t : Nat → ByteArray) (bo us : Nat → Int) (ok : Bool) (W : World) (hs : Sl W v 4 n (gc a b c d)) (hx : Hid (∀ i, i < n → ((a i).size : Int) ≤ 1048576)) (hs2 : Sl W v2 3 m (kc t bo us)) (hx2 : Hid (∀ i, i < m → ((t i).size : Int) ≤ 1048576)) :
    Calls Try.prog 29 #[v, v2, .bool ok] W fun e W' => e = .returned (.int .i64 (fcode n a b c d (ok && soldB m t bo us) m t)) ∧ Below W.heap.size W W' := by
  have HL := Lib.hid (s_listFare v n a b c d W hs hx)
  have HSO := Lib.hid (fun w h => s_l18Sold v2 m t bo us w h hx2)
  have HFI := Lib.hid (fun id w h => s_find v n a b c d id w h)
  have HSA := hs
  have HSB := hs2
  obtain ⟨hn, ao, cap, rfl, hr⟩ := hs
  obtain ⟨hm, ao2, cap2, rfl, hr2⟩ := hs2
  clear hr
  cases hv : vFares n a b c d
  · rw [hv] at HL
    have HF := Lib.hid (fcode_1 (fine := ok && soldB m t bo us) (m := m) (t := t) hv)
    clear hv hr2
    go_enter Try.func29, Try.ntmps29
    go_wp2_with (go_at_call 40; refine HL.out.mono ?_; rintro e w1 ⟨rfl, hb1⟩)
    go_ret
    exact ⟨by rw [HF.out]; rfl, hb1⟩
  rw [hv] at HL
  have F2 := Lib.hid (fcode_2 (m := m) (t := t) hv)
  have F3 := Lib.hid (fun k (hk : k < m) h => fcode_3 (m := m) (t := t) hv hk h)
  have F0 := Lib.hid (fun h => fcode_0 (m := m) (t := t) hv h)
  clear hv
  cases ok
  · rw [Bool.false_and]
    clear hr2
    go_enter Try.func29, Try.ntmps29
    go_wp2_with (go_at_call 40; refine HL.out.mono ?_; rintro e w1 ⟨rfl, hb1⟩)
    go_ret
    exact ⟨by rw [F2.out]; rfl, hb1⟩
  rw [Bool.true_and]
  cases hso : soldB m t bo us
  · rw [hso] at HSO
    clear hr2 hso
    go_enter Try.func29, Try.ntmps29
    go_wp2_with (first | (go_at_call 49; refine (HSO.out _ (HSB.kept hb1)).mono ?_; rintro e w2 ⟨rfl, hb2⟩) | (go_at_call 40; refine HL.out.mono ?_; rintro e w1 ⟨rfl, hb1⟩))
    go_ret
    exact ⟨by rw [F2.out]; rfl, kept_trans hb1 hb2⟩
  rw [hso] at HSO
  clear hso F2
  generalize fcode n a b c d true m t = X at *
  go_enter Try.func29, Try.ntmps29
  go_wp2_with (first | (go_at_call 49; refine (HSO.out _ (HSB.kept hb1)).mono ?_; rintro e w2 ⟨rfl, hb2⟩) | (go_at_call 40; refine HL.out.mono ?_; rintro e w1 ⟨rfl, hb1⟩))
  have KB := kept_trans hb1 hb2
  go_loopw [7] (fun i wr => ∃ k : Nat, k ≤ m ∧ i = .int .i64 k ∧ Below W.heap.size W wr ∧ Hid (∀ i, i < k → 0 ≤ fidx n a (t i))) (fun i _ => m - (intOf i).toNat)
  case atStart => exact ⟨0, by omega, rfl, KB, fun i hi => by omega⟩
  case round =>
    clear hb1 hb2 KB HL HSO
    obtain ⟨k, hk, rfl, hb, hno⟩ := hrel
    by_cases hlt : k < m
    · rcases hr2 with h0 | ⟨g, off, rfl, hr2⟩
      · omega
      have t0 := (kccells (hr2.kept hb) hlt).1
      have HT := Lib.hid (HFI.out (t k) wr (HSA.kept hb))
      clear hr2
      rcases fidx_cases n a (t k) with h | ⟨q, hq, h⟩
      · have HX := Lib.hid (F3.out k hlt h)
        rw [h] at HT
        clear h
        go_wp2_with (go_at_call 31; refine HT.out.mono ?_; rintro e w' ⟨rfl, rfl⟩)
        go_ret
        exact ⟨by rw [HX.out]; rfl, hb⟩
      · have HN : Hid (∀ i, i < k + 1 → 0 ≤ fidx n a (t i)) := fun i hi => by
          by_cases e : i = k
          · rw [e, h]; omega
          · exact hno.out i (by omega)
        rw [h] at HT
        clear h
        go_wp2_with (go_at_call 31; refine HT.out.mono ?_; rintro e w' ⟨rfl, rfl⟩)
        go_roundw
        case rel => exact ⟨k + 1, by omega, by go_num, hb, HN⟩
        case measure => simp [intOf]; omega
    · obtain rfl : k = m := by omega
      have HX := Lib.hid (F0.out hno.out)
      clear hr2
      go_wp2
      go_ret
      exact ⟨by rw [HX.out]; rfl, hb⟩

set_option maxHeartbeats 1600000 in
theorem i_soldOf (v : Value) (n : Nat) (a : Nat → ByteArray) (b c d : Nat → Int) (v2 : Value) (m : Nat) (t : Nat → ByteArray) (bo us : Nat → Int) (ok : Bool) (W : World) (hs : Sl W v 4 n (gc a b c d)) (hx : Hid (∀ i, i < n → ((a i).size : Int) ≤ 1048576)) (hs2 : Sl W v2 3 m (kc t bo us)) (hx2 : Hid (∀ i, i < m → ((t i).size : Int) ≤ 1048576)) (hm1 : (m : Int) ≤ 1048576) :
    Calls Try.prog 34 #[v, v2, .bool ok] W fun e W' => e = .returned (.int .i64 (fcode n a b c d (ok && soldB m t bo us) m t)) ∧ Below W.heap.size W W' := by
  obtain ⟨i0, hi, hz0, hz1, hz2⟩ := info_parts infoStr
  have HFD := Lib.hid (fun f u w h h2 => i_fared v n a b c d f u m t w h hx h2)
  have HSA := hs
  obtain ⟨hm, ao2, cap2, rfl, hr2⟩ := hs2
  have FE := Lib.hid (fineTo_end ok m t bo us)
  have FZ := Lib.hid (fineTo_zero ok m t bo us)
  have FN := Lib.hid (fun k h => fineTo_no (ok := ok) (m := m) (t := t) (bo := bo) (us := us) (k := k) h)
  have FY := Lib.hid (fun k h => fineTo_yes (ok := ok) (m := m) (t := t) (bo := bo) (us := us) (k := k) h)
  rw [← FE.out]
  generalize fineTo ok m t bo us = F at *
  obtain ⟨hn, ao, cap, rfl, hr⟩ := hs
  clear hr
  have START : ∃ x : Bool, Hid (F 0 = x) ∧ ((ok = false ∧ x = false) ∨ (ok = true ∧ x = decide (m ≤ 100))) := by
    cases ok
    · exact ⟨false, FZ.out, .inl ⟨rfl, rfl⟩⟩
    · exact ⟨decide (m ≤ 100), by show F 0 = _; rw [FZ.out]; rfl, .inr ⟨rfl, rfl⟩⟩
  obtain ⟨x0, HX0, hx0⟩ := START
  clear FZ FE
  rcases hx0 with ⟨rfl, rfl⟩ | ⟨rfl, hx0⟩
  · go_enter Try.func34, Try.ntmps34
    go_wp2
    go_loopw [2, 7, 18] (fun f u i wr => ∃ (k : Nat) (y : Value), k ≤ m ∧ i = .int .i64 k ∧ f = .bool (F k) ∧ y = u ∧ Below W.heap.size W wr ∧ Out wr W.heap.size 9 1 y k (sc t)) (fun _ _ i _ => m - (intOf i).toNat)
    case atStart => exact ⟨0, _, by omega, rfl, by rw [HX0.out], rfl, Below.refl _ _, Out.nil _ _ _ _ _⟩
    case round =>
      clear HX0
      obtain ⟨k, y, hk, rfl, rfl, rfl, hb, hown⟩ := hrel
      by_cases hlt : k < m
      · rcases hr2 with h0 | ⟨g, off, rfl, hr2⟩
        · omega
        obtain ⟨t0, t1, t2⟩ := kccells (hr2.kept hb) hlt
        have HT := Lib.hid (fun w => i_isTicket (t k) (bo k) (us k) w (hx2.out k hlt))
        have KX := kept_alloc (Below.refl wr.heap.size wr) (.cells #[.string (t k), .int .i64 (bo k), .int .i64 (us k)] 58)
        have hownA := hown.kept KX
        have hbA := kept_trans hb KX
        have TB : (wr.alloc (.cells #[.string (t k), .int .i64 (bo k), .int .i64 (us k)] 58)).cell? ⟨wr.heap.size, 0, none⟩ = some (.string (t k)) := boxed_at rfl rfl
        clear hr2 hown
        cases hF : F k
        · have HF1 := Lib.hid (FN.out k hF)
          clear hF TB
          go_wp2_with (at_builtin; refine wpList_append_own _ rfl _ _ 36 rfl _ 9 i0 _ 1 16 Try.underlying36 hi hz0 hz1 hz2 rfl (by decide) _ _ _ rfl ((hownA).row.alloc _) ⟨wr.heap.size + 1, 0, none⟩ 1 1 _ (by rfl) (by rfl) (laid_at (by simp)) (by intro u hu; simp at hu; first | (rcases hu with rfl | rfl <;> rfl) | (subst hu; rfl)) (by simp only [maxLen]; omega) (by omega) (by have hbs := hbA.size; simp at hbs ⊢; omega) ?_; intro v1 w1 hown1 hgrow1 _)
          have R1 := Lib.hid (Out.snoc1 hown1 rfl)
          have R2 := below_of_append hbA hownA.row hgrow1
          clear hownA hown1 hgrow1 hb
          try go_wp2
          go_roundw
          case rel => exact ⟨k + 1, _, by omega, by go_num, by rw [HF1.out], rfl, R2, R1.out⟩
          case measure => simp [intOf]; omega
        · have HF1 := Lib.hid (FY.out k hF)
          rw [← HF1.out] at HT
          clear hF
          go_wp2_with (first | (at_builtin; refine wpList_append_own _ rfl _ _ 36 rfl _ 9 i0 _ 1 16 Try.underlying36 hi hz0 hz1 hz2 rfl (by decide) _ _ _ rfl ((hownB).row.alloc _) ⟨w2.heap.size, 0, none⟩ 1 1 _ (by rfl) (by rfl) (laid_at (by simp)) (by intro u hu; simp at hu; first | (rcases hu with rfl | rfl <;> rfl) | (subst hu; rfl)) (by simp only [maxLen]; omega) (by omega) (by have hbs := hbB.size; simp at hbs ⊢; omega) ?_; intro v1 w1 hown1 hgrow1 _) | (go_at_call 51; refine (HT.out _).mono ?_; rintro e w2 ⟨rfl, hb2⟩; have s0 := cell_keep hb2 TB; have hownB := hownA.kept hb2; have hbB := kept_trans hbA hb2))
          have R1 := Lib.hid (Out.snoc1 hown1 rfl)
          have R2 := below_of_append hbB hownB.row hgrow1
          clear hownA hownB hown1 hgrow1 hb s0
          try go_wp2
          go_roundw
          case rel => exact ⟨k + 1, _, by omega, by go_num, rfl, rfl, R2, R1.out⟩
          case measure => simp [intOf]; omega
      · obtain rfl : k = m := by omega
        have HC := Lib.hid (HFD.out (F k) _ wr (HSA.kept hb) (hown.sl (by omega)))
        clear hr2
        go_wp2_with (go_at_call 43; refine HC.out.mono ?_; rintro e w3 ⟨rfl, hb3⟩)
        go_ret
        exact ⟨rfl, kept_trans hb hb3⟩
  · have hx0' : x0 = decide ((m : Int) ≤ 100) := by rw [hx0]; simp; omega
    clear hx0
    subst hx0'
    go_enter Try.func34, Try.ntmps34
    go_wp2
    go_loopw [2, 7, 18] (fun f u i wr => ∃ (k : Nat) (y : Value), k ≤ m ∧ i = .int .i64 k ∧ f = .bool (F k) ∧ y = u ∧ Below W.heap.size W wr ∧ Out wr W.heap.size 9 1 y k (sc t)) (fun _ _ i _ => m - (intOf i).toNat)
    case atStart => exact ⟨0, _, by omega, rfl, by rw [HX0.out], rfl, Below.refl _ _, Out.nil _ _ _ _ _⟩
    case round =>
      clear HX0
      obtain ⟨k, y, hk, rfl, rfl, rfl, hb, hown⟩ := hrel
      by_cases hlt : k < m
      · rcases hr2 with h0 | ⟨g, off, rfl, hr2⟩
        · omega
        obtain ⟨t0, t1, t2⟩ := kccells (hr2.kept hb) hlt
        have HT := Lib.hid (fun w => i_isTicket (t k) (bo k) (us k) w (hx2.out k hlt))
        have KX := kept_alloc (Below.refl wr.heap.size wr) (.cells #[.string (t k), .int .i64 (bo k), .int .i64 (us k)] 58)
        have hownA := hown.kept KX
        have hbA := kept_trans hb KX
        have TB : (wr.alloc (.cells #[.string (t k), .int .i64 (bo k), .int .i64 (us k)] 58)).cell? ⟨wr.heap.size, 0, none⟩ = some (.string (t k)) := boxed_at rfl rfl
        clear hr2 hown
        cases hF : F k
        · have HF1 := Lib.hid (FN.out k hF)
          clear hF TB
          go_wp2_with (at_builtin; refine wpList_append_own _ rfl _ _ 36 rfl _ 9 i0 _ 1 16 Try.underlying36 hi hz0 hz1 hz2 rfl (by decide) _ _ _ rfl ((hownA).row.alloc _) ⟨wr.heap.size + 1, 0, none⟩ 1 1 _ (by rfl) (by rfl) (laid_at (by simp)) (by intro u hu; simp at hu; first | (rcases hu with rfl | rfl <;> rfl) | (subst hu; rfl)) (by simp only [maxLen]; omega) (by omega) (by have hbs := hbA.size; simp at hbs ⊢; omega) ?_; intro v1 w1 hown1 hgrow1 _)
          have R1 := Lib.hid (Out.snoc1 hown1 rfl)
          have R2 := below_of_append hbA hownA.row hgrow1
          clear hownA hown1 hgrow1 hb
          try go_wp2
          go_roundw
          case rel => exact ⟨k + 1, _, by omega, by go_num, by rw [HF1.out], rfl, R2, R1.out⟩
          case measure => simp [intOf]; omega
        · have HF1 := Lib.hid (FY.out k hF)
          rw [← HF1.out] at HT
          clear hF
          go_wp2_with (first | (at_builtin; refine wpList_append_own _ rfl _ _ 36 rfl _ 9 i0 _ 1 16 Try.underlying36 hi hz0 hz1 hz2 rfl (by decide) _ _ _ rfl ((hownB).row.alloc _) ⟨w2.heap.size, 0, none⟩ 1 1 _ (by rfl) (by rfl) (laid_at (by simp)) (by intro u hu; simp at hu; first | (rcases hu with rfl | rfl <;> rfl) | (subst hu; rfl)) (by simp only [maxLen]; omega) (by omega) (by have hbs := hbB.size; simp at hbs ⊢; omega) ?_; intro v1 w1 hown1 hgrow1 _) | (go_at_call 51; refine (HT.out _).mono ?_; rintro e w2 ⟨rfl, hb2⟩; have s0 := cell_keep hb2 TB; have hownB := hownA.kept hb2; have hbB := kept_trans hbA hb2))
          have R1 := Lib.hid (Out.snoc1 hown1 rfl)
          have R2 := below_of_append hbB hownB.row hgrow1
          clear hownA hownB hown1 hgrow1 hb s0
          try go_wp2
          go_roundw
          case rel => exact ⟨k + 1, _, by omega, by go_num, rfl, rfl, R2, R1.out⟩
          case measure => simp [intOf]; omega
      · obtain rfl : k = m := by omega
        have HC := Lib.hid (HFD.out (F k) _ wr (HSA.kept hb) (hown.sl (by omega)))
        clear hr2
        go_wp2_with (go_at_call 43; refine HC.out.mono ?_; rintro e w3 ⟨rfl, hb3⟩)
        go_ret
        exact ⟨rfl, kept_trans hb hb3⟩

end Go.Proofs.Ytdecdlaopoglbaa
