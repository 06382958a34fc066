/- The income of tickets: the meaning, the reference, the program, the law. -/
import Derived.Test.YtdecdlaopoglbaaSold
import Derived.IntWalk
namespace Go.Proofs.Ytdecdlaopoglbaa
open Go.RowKit Go.Deep
set_option linter.unusedVariables false
set_option maxRecDepth 100000

def incS (n : Nat) (a : Nat → ByteArray) (b : Nat → Int) (t : Nat → ByteArray) (bo : Nat → Int) (f u : Int) : Nat → Int
  | 0 => 0
  | k + 1 => incS n a b t bo f u k + (if f ≤ bo k ∧ bo k < u then b (fidx n a (t k)).toNat else 0)
section
variable {n : Nat} {a : Nat → ByteArray} {b : Nat → Int} {t : Nat → ByteArray} {bo : Nat → Int} {f u : Int}
theorem incS_zero : incS n a b t bo f u 0 = 0 := rfl
theorem incS_yes {k q : Nat} (hq : fidx n a (t k) = (q : Nat)) (h1 : f ≤ bo k) (h2 : bo k < u) : incS n a b t bo f u (k + 1) = incS n a b t bo f u k + b q := by
  simp only [incS]; rw [if_pos ⟨h1, h2⟩, hq, Int.toNat_natCast]
theorem incS_no {k : Nat} (h : bo k < f ∨ u ≤ bo k) : incS n a b t bo f u (k + 1) = incS n a b t bo f u k := by
  simp only [incS]; rw [if_neg (by omega)]; omega
end
attribute [irreducible] incS
def incR (n : Nat) (a : Nat → ByteArray) (b c d : Nat → Int) (m : Nat) (t : Nat → ByteArray) (bo us : Nat → Int) (f u : Int) : Int × Int :=
  if fcode n a b c d (inB f 0 36524 && inB u f 36525 && soldB m t bo us) m t = 0 then (incS n a b t bo f u m, 0) else (0, fcode n a b c d (inB f 0 36524 && inB u f 36525 && soldB m t bo us) m t)
section
variable {n : Nat} {a : Nat → ByteArray} {b c d : Nat → Int} {m : Nat} {t : Nat → ByteArray} {bo us : Nat → Int} {f u x : Int}
theorem incR_no (h : fcode n a b c d (inB f 0 36524 && inB u f 36525 && soldB m t bo us) m t = x) (hx : x = 1 ∨ x = 2 ∨ x = 3) : incR n a b c d m t bo us f u = (0, x) := by unfold incR; rw [h, if_neg (by omega)]
theorem incR_yes (h : fcode n a b c d (inB f 0 36524 && inB u f 36525 && soldB m t bo us) m t = 0) : incR n a b c d m t bo us f u = (incS n a b t bo f u m, 0) := by unfold incR; rw [if_pos h]
end
attribute [irreducible] incR
theorem spanParts (f u : Int) : (inB f 0 36524 = false ∧ Hid ((inB f 0 36524 && inB u f 36525) = false)) ∨ (inB f 0 36524 = true ∧ inB u f 36525 = false ∧ Hid ((inB f 0 36524 && inB u f 36525) = false)) ∨ (inB f 0 36524 = true ∧ inB u f 36525 = true ∧ Hid ((inB f 0 36524 && inB u f 36525) = true)) := by
  cases inB f 0 36524
  · exact .inl ⟨rfl, rfl⟩
  · cases inB u f 36525
    · exact .inr (.inl ⟨rfl, rfl, rfl⟩)
    · exact .inr (.inr ⟨rfl, rfl, rfl⟩)

theorem s_l02Span (f u : Int) (W : World) : Calls Try.prog 30 #[.int .i64 f, .int .i64 u] W fun e W' => e = .returned (.bool (inB f 0 36524 && inB u f 36525)) ∧ W = W' := by
  rcases spanParts f u with ⟨h1, HV⟩ | ⟨h1, h2, HV⟩ | ⟨h1, h2, HV⟩
  all_goals
    rw [HV.out]
    go_enter Try.func30, Try.ntmps30
    go_wp2_with (first | (go_at_call 41; refine (s_l02Day _ _).mono ?_; rintro e w' ⟨rfl, rfl⟩) | (go_at_call 50; refine (s_l00In _ _ _ _).mono ?_; rintro e w' ⟨rfl, rfl⟩))
    go_ret
    exact ⟨rfl, rfl⟩

/-- What a walk of the tickets has to hand, when all is as it has to be. -/
theorem inc_facts {n : Nat} {a : Nat → ByteArray} {b c d : Nat → Int} {m : Nat} {t : Nat → ByteArray} {bo us : Nat → Int} {ok : Bool} (h : fcode n a b c d (ok && soldB m t bo us) m t = 0) :
    ok = true ∧ n ≤ 8 ∧ m ≤ 100 ∧ Hid (∀ i, i < m → ∃ k, k < n ∧ fidx n a (t i) = (k : Nat) ∧ (0 ≤ b k ∧ b k ≤ 100000) ∧ (1 ≤ c k ∧ c k ≤ 1000) ∧ (1 ≤ d k ∧ d k ≤ 400)) ∧ Hid (∀ i, i < m → (0 ≤ bo i ∧ bo i ≤ 36524) ∧ (0 ≤ us i ∧ us i ≤ 1000)) := by
  obtain ⟨h1, h2, h3⟩ := fcode_out h
  rw [Bool.and_eq_true] at h1
  have h4 := soldB_out h1.2
  exact ⟨h1.1, h2, h4.1, h3, fun i hi => (vTk_out (h4.2 i hi)).2⟩

set_option maxHeartbeats 1600000 in
theorem s_IncomeOf (v : Value) (n : Nat) (a : Nat → ByteArray) (b c d : Nat → Int) (v2 : Value) (m : Nat) (t : Nat → ByteArray) (bo us : Nat → Int) (f u : Int) (W : World) (hs : Sl W v 4 n (gc a b c d)) (hx : Hid (∀ i, i < n → ((a i).size : Int) ≤ 1048576)) (hs2 : Sl W v2 3 m (kc t bo us)) (hx2 : Hid (∀ i, i < m → ((t i).size : Int) ≤ 1048576)) :
    Calls Try.prog 8 #[v, v2, .int .i64 f, .int .i64 u] W fun e W' => e = .returned (.tuple #[.int .i64 (incR n a b c d m t bo us f u).1, .int .i64 (incR n a b c d m t bo us f u).2]) ∧ Below W.heap.size W W' := by
  have HAL := Lib.hid (s_l18All v n a b c d v2 m t bo us (inB f 0 36524 && inB u f 36525) W hs hx hs2 hx2)
  have HSP := Lib.hid (fun w => s_l02Span f u w)
  have HFI := Lib.hid (fun id w h => s_find v n a b c d id w h)
  have HSA := hs
  have HSB := hs2
  obtain ⟨hn, ao, cap, rfl, hr⟩ := hs
  obtain ⟨hm, ao2, cap2, rfl, hr2⟩ := hs2
  have NO := Lib.hid (fun x hx h => incR_no (n := n) (a := a) (b := b) (c := c) (d := d) (m := m) (t := t) (bo := bo) (us := us) (f := f) (u := u) (x := x) hx h)
  rcases (fcode_vals n a b c d (inB f 0 36524 && inB u f 36525 && soldB m t bo us) m t) with h | h | h | h
  case inr.inr.inr =>
    rw [incR_yes h]
    rw [h] at HAL
    obtain ⟨hok, hn8, hm100, HK, HBO⟩ := inc_facts h
    generalize (inB f 0 36524 && inB u f 36525) = ok at *
    have IZ := Lib.hid (incS_zero (n := n) (a := a) (b := b) (t := t) (bo := bo) (f := f) (u := u))
    have IY := Lib.hid (fun k q hq h1 h2 => incS_yes (n := n) (a := a) (b := b) (t := t) (bo := bo) (f := f) (u := u) (k := k) (q := q) hq h1 h2)
    have IN := Lib.hid (fun k h => incS_no (n := n) (a := a) (b := b) (t := t) (bo := bo) (f := f) (u := u) (k := k) h)
    clear h hok NO
    generalize incS n a b t bo f u = I at *
    go_enter Try.func8, Try.ntmps8
    go_wp2_with (first | (go_at_call 29; refine HAL.out.mono ?_; rintro e w1 ⟨rfl, hb1⟩) | (go_at_call 30; refine (HSP.out _).mono ?_; rintro e w' ⟨rfl, rfl⟩))
    go_loopw [11, 12] (fun s i wr => ∃ (k : Nat) (S : Int), k ≤ m ∧ i = .int .i64 k ∧ s = .int .i64 S ∧ Hid (S = I k) ∧ 0 ≤ S ∧ S ≤ 100000 * k ∧ Below W.heap.size W wr) (fun _ i _ => m - (intOf i).toNat)
    case atStart => exact ⟨0, 0, by omega, rfl, rfl, IZ.out.symm, by omega, by omega, hb1⟩
    case round =>
      clear hb1 IZ HAL HSP
      obtain ⟨k, S, hk, rfl, rfl, hS, hS0, hS1, hb⟩ := hrel
      by_cases hlt : k < m
      · rcases hr2 with h0 | ⟨g2, off2, rfl, hr2⟩
        · omega
        obtain ⟨t0, t1, t2⟩ := kccells (hr2.kept hb) hlt
        clear hr2
        rcases (show bo k < f ∨ (f ≤ bo k ∧ u ≤ bo k) ∨ (f ≤ bo k ∧ bo k < u) by omega) with h1 | ⟨h1, h2⟩ | ⟨h1, h2⟩
        · have HN := Lib.hid (IN.out k (.inl h1))
          clear hr
          go_wp2
          go_roundw
          case rel => exact ⟨k + 1, S, by omega, by go_num, rfl, by show S = _; rw [HN.out, hS.out], by omega, by omega, hb⟩
          case measure => simp [intOf]; omega
        · have HN := Lib.hid (IN.out k (.inr h2))
          clear hr
          go_wp2
          go_roundw
          case rel => exact ⟨k + 1, S, by omega, by go_num, rfl, by show S = _; rw [HN.out, hS.out], by omega, by omega, hb⟩
          case measure => simp [intOf]; omega
        · obtain ⟨q, hq, hfx, ⟨hb0, hb1⟩, -, -⟩ := HK.out k hlt
          have HN := Lib.hid (IY.out k q hfx h1 h2)
          have HT := Lib.hid (HFI.out (t k) wr (HSA.kept hb))
          rw [hfx] at HT
          rcases hr with h0 | ⟨g, off, rfl, hr⟩
          · omega
          obtain ⟨c0, c1, c2, c3⟩ := gccells (hr.kept hb) hq
          have e1 : (q : Int) < n := by omega
          clear hr hfx
          go_wp2_with (go_at_call 31; refine HT.out.mono ?_; rintro e w' ⟨rfl, rfl⟩)
          go_roundw
          case rel => exact ⟨k + 1, S + b q, by omega, by go_num, rfl, by show S + b q = _; rw [HN.out, hS.out], by omega, by omega, hb⟩
          case measure => simp [intOf]; omega
      · obtain rfl : k = m := by omega
        clear hr hr2
        go_wp2
        refine bodyPost_ret (results_tmp2 rfl _ _ _) rfl ⟨by rw [← hS.out]; rfl, hb⟩
  all_goals
    rw [NO.out _ h (by omega)]
    rw [h] at HAL
    generalize (inB f 0 36524 && inB u f 36525) = ok at *
    clear h NO hr hr2
    go_enter Try.func8, Try.ntmps8
    go_wp2_with (first | (go_at_call 29; refine HAL.out.mono ?_; rintro e w1 ⟨rfl, hb1⟩) | (go_at_call 30; refine (HSP.out _).mono ?_; rintro e w' ⟨rfl, rfl⟩))
    refine bodyPost_ret (results_tmp2 rfl _ _ _) rfl ⟨rfl, hb1⟩

set_option maxHeartbeats 1600000 in
theorem i_IncomeOf (v : Value) (n : Nat) (a : Nat → ByteArray) (b c d : Nat → Int) (v2 : Value) (m : Nat) (t : Nat → ByteArray) (bo us : Nat → Int) (f u : Int) (W : World) (hs : Sl W v 4 n (gc a b c d)) (hx : Hid (∀ i, i < n → ((a i).size : Int) ≤ 1048576)) (hs2 : Sl W v2 3 m (kc t bo us)) (hx2 : Hid (∀ i, i < m → ((t i).size : Int) ≤ 1048576)) (hm1 : (m : Int) ≤ 1048576) :
    Calls Try.prog 11 #[v, v2, .int .i64 f, .int .i64 u] W fun e W' => e = .returned (.tuple #[.int .i64 (incR n a b c d m t bo us f u).1, .int .i64 (incR n a b c d m t bo us f u).2]) ∧ Below W.heap.size W W' := by
  have HAL := Lib.hid (i_soldOf v n a b c d v2 m t bo us (inB f 0 36524 && inB u f 36525) W hs hx hs2 hx2 hm1)
  have HFO := Lib.hid (fun (id : ByteArray) (k : Nat) (h : fidx n a id = (k : Nat)) w hs => i_fareOf_yes (b := b) (c := c) (d := d) h v w hs)
  have HSA := hs
  obtain ⟨hn, ao, cap, rfl, hr⟩ := hs
  obtain ⟨hm, ao2, cap2, rfl, hr2⟩ := hs2
  clear hr
  have NO := Lib.hid (fun x hx h => incR_no (n := n) (a := a) (b := b) (c := c) (d := d) (m := m) (t := t) (bo := bo) (us := us) (f := f) (u := u) (x := x) hx h)
  rcases (fcode_vals n a b c d (inB f 0 36524 && inB u f 36525 && soldB m t bo us) m t) with h | h | h | h
  case inr.inr.inr =>
    rw [incR_yes h]
    rw [h] at HAL
    obtain ⟨hok, hn8, hm100, HK, HBO⟩ := inc_facts h
    rw [hok] at HAL
    rw [Bool.and_eq_true] at hok
    obtain ⟨o1, o2⟩ := hok
    have IZ := Lib.hid (incS_zero (n := n) (a := a) (b := b) (t := t) (bo := bo) (f := f) (u := u))
    have IY := Lib.hid (fun k q hq h1 h2 => incS_yes (n := n) (a := a) (b := b) (t := t) (bo := bo) (f := f) (u := u) (k := k) (q := q) hq h1 h2)
    have IN := Lib.hid (fun k h => incS_no (n := n) (a := a) (b := b) (t := t) (bo := bo) (f := f) (u := u) (k := k) h)
    clear h NO
    generalize incS n a b t bo f u = I at *
    go_enter Try.func11, Try.ntmps11
    go_wp2_with (first | (go_at_call 35; refine (i_isDay _ _).mono ?_; rintro e w' ⟨rfl, rfl⟩) | (go_at_call 36; refine (i_within _ _ _ _).mono ?_; rintro e w' ⟨rfl, rfl⟩) | (go_at_call 34; refine HAL.out.mono ?_; rintro e w1 ⟨rfl, hb1⟩))
    go_loopw [11, 31] (fun s i wr => ∃ (k : Nat) (S : Int), k ≤ m ∧ i = .int .i64 k ∧ s = .int .i64 S ∧ Hid (S = I k) ∧ 0 ≤ S ∧ S ≤ 100000 * k ∧ Below W.heap.size W wr) (fun _ i _ => m - (intOf i).toNat)
    case atStart => exact ⟨0, 0, by omega, rfl, rfl, IZ.out.symm, by omega, by omega, hb1⟩
    case round =>
      clear hb1 IZ HAL o1 o2
      obtain ⟨k, S, hk, rfl, rfl, hS, hS0, hS1, hb⟩ := hrel
      by_cases hlt : k < m
      · rcases hr2 with h0 | ⟨g2, off2, rfl, hr2⟩
        · omega
        obtain ⟨t0, t1, t2⟩ := kccells (hr2.kept hb) hlt
        obtain ⟨q, hq, hfx, ⟨hb0, hb1⟩, -, -⟩ := HK.out k hlt
        have KX := kept_alloc (Below.refl wr.heap.size wr) (.cells #[.string (t k), .int .i64 (bo k), .int .i64 (us k)] 58)
        have HT := Lib.hid (HFO.out (t k) q hfx _ ((HSA.kept hb).kept KX))
        have TB : (wr.alloc (.cells #[.string (t k), .int .i64 (bo k), .int .i64 (us k)] 58)).cell? ⟨wr.heap.size, 1, none⟩ = some (.int .i64 (bo k)) := boxed_at rfl rfl
        clear hr2
        rcases (show bo k < f ∨ (f ≤ bo k ∧ u ≤ bo k) ∨ (f ≤ bo k ∧ bo k < u) by omega) with h1 | ⟨h1, h2⟩ | ⟨h1, h2⟩
        · have HN := Lib.hid (IN.out k (.inl h1))
          clear hfx
          go_wp2_with (go_at_call 37; refine HT.out.mono ?_; rintro e x1 ⟨rfl, hbx1⟩; have s1 := cell_keep hbx1 TB; have hz1 := hbx1.size; simp at hz1; have hz2 := Nat.lt_of_succ_le hz1)
          go_roundw
          case rel => exact ⟨k + 1, S, by omega, by go_num, rfl, by show S = _; rw [HN.out, hS.out], by omega, by omega, kept_alloc (kept_trans (kept_trans hb KX) hbx1) _⟩
          case measure => simp [intOf]; omega
        · have HN := Lib.hid (IN.out k (.inr h2))
          clear hfx
          go_wp2_with (go_at_call 37; refine HT.out.mono ?_; rintro e x1 ⟨rfl, hbx1⟩; have s1 := cell_keep hbx1 TB; have hz1 := hbx1.size; simp at hz1; have hz2 := Nat.lt_of_succ_le hz1)
          go_roundw
          case rel => exact ⟨k + 1, S, by omega, by go_num, rfl, by show S = _; rw [HN.out, hS.out], by omega, by omega, kept_alloc (kept_trans (kept_trans hb KX) hbx1) _⟩
          case measure => simp [intOf]; omega
        · have HN := Lib.hid (IY.out k q hfx h1 h2)
          clear hfx
          go_wp2_with (go_at_call 37; refine HT.out.mono ?_; rintro e x1 ⟨rfl, hbx1⟩; have s1 := cell_keep hbx1 TB; have hz1 := hbx1.size; simp at hz1; have hz2 := Nat.lt_of_succ_le hz1)
          go_roundw
          case rel => exact ⟨k + 1, S + b q, by omega, by go_num, rfl, by show S + b q = _; rw [HN.out, hS.out], by omega, by omega, kept_alloc (kept_trans (kept_trans hb KX) hbx1) _⟩
          case measure => simp [intOf]; omega
      · obtain rfl : k = m := by omega
        clear hr2
        go_wp2
        refine bodyPost_ret (results_tmp2 rfl _ _ _) rfl ⟨by rw [← hS.out]; rfl, hb⟩
  all_goals
    rw [NO.out _ h (by omega)]
    rw [h] at HAL
    clear h NO hr2
    rcases spanParts f u with ⟨h1, HV⟩ | ⟨h1, h2, HV⟩ | ⟨h1, h2, HV⟩
    all_goals
      rw [HV.out] at HAL
      go_enter Try.func11, Try.ntmps11
      go_wp2_with (first | (go_at_call 35; refine (i_isDay _ _).mono ?_; rintro e w' ⟨rfl, rfl⟩) | (go_at_call 36; refine (i_within _ _ _ _).mono ?_; rintro e w' ⟨rfl, rfl⟩) | (go_at_call 34; refine HAL.out.mono ?_; rintro e w1 ⟨rfl, hb1⟩))
      refine bodyPost_ret (results_tmp2 rfl _ _ _) rfl ⟨rfl, hb1⟩

theorem l_IncomeOf {W : World} (v : Value) (n : Nat) (a : Nat → ByteArray) (b c d : Nat → Int) (hs : Sl W v 4 n (gc a b c d)) (hx : Hid (∀ i, i < n → ((a i).size : Int) ≤ 9223372036854775807)) (v2 : Value) (m : Nat) (t : Nat → ByteArray) (bo us : Nat → Int) (hs2 : Sl W v2 3 m (kc t bo us)) (hx2 : Hid (∀ i, i < m → ((t i).size : Int) ≤ 9223372036854775807)) (f u : Int) : Calls Try.prog 3 #[v, v2, .int .i64 f, .int .i64 u] W (Truly W) :=
  l_IncomeOf_of v n a b c d v2 m t bo us f u hs hx hs2 hx2 _ _ (fun w u0 u1 h h2 hb hb2 _ => s_IncomeOf u0 n a b c d u1 m t bo us f u w h hb h2 hb2) (fun w u0 u1 h h2 hb hb2 ln => i_IncomeOf u0 n a b c d u1 m t bo us f u w h hb h2 hb2 ln)

end Go.Proofs.Ytdecdlaopoglbaa
