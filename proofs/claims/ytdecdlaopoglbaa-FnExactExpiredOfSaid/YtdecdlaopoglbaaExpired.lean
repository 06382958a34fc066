/- The tickets that have expired: the meaning, the reference, the program, the law. -/
import Derived.Test.YtdecdlaopoglbaaIncome
import Derived.Test.YtdecdlaopoglbaaPicks
namespace Go.Proofs.Ytdecdlaopoglbaa
open Go.RowKit Go.Deep
set_option linter.unusedVariables false
set_option maxRecDepth 100000

/-- Ticket k has rides left and is not good any more. -/
def exB (n : Nat) (a : Nat → ByteArray) (c d : Nat → Int) (t : Nat → ByteArray) (bo us : Nat → Int) (day : Int) (k : Nat) : Bool :=
  decide (bo k ≤ day) && decide (us k < c (fidx n a (t k)).toNat) && !(tgood (bo k) (us k) (c (fidx n a (t k)).toNat) (d (fidx n a (t k)).toNat) day)
theorem exB_cases {n : Nat} {a : Nat → ByteArray} {c d : Nat → Int} {t : Nat → ByteArray} {bo us : Nat → Int} {day : Int} {k q : Nat} (hq : fidx n a (t k) = (q : Nat)) :
    (day < bo k ∧ c q ≤ us k ∧ Hid (exB n a c d t bo us day k = false)) ∨ (day < bo k ∧ us k < c q ∧ Hid (exB n a c d t bo us day k = false)) ∨ (bo k ≤ day ∧ c q ≤ us k ∧ Hid (exB n a c d t bo us day k = false)) ∨
    (bo k ≤ day ∧ us k < c q ∧ tgood (bo k) (us k) (c q) (d q) day = true ∧ Hid (exB n a c d t bo us day k = false)) ∨ (bo k ≤ day ∧ us k < c q ∧ tgood (bo k) (us k) (c q) (d q) day = false ∧ Hid (exB n a c d t bo us day k = true)) := by
  have key : exB n a c d t bo us day k = (decide (bo k ≤ day) && decide (us k < c q) && !(tgood (bo k) (us k) (c q) (d q) day)) := by unfold exB; rw [hq, Int.toNat_natCast]
  by_cases h1 : bo k ≤ day
  · by_cases h2 : us k < c q
    · have d1 : decide (bo k ≤ day) = true := by simpa using h1
      have d2 : decide (us k < c q) = true := by simpa using h2
      cases h3 : tgood (bo k) (us k) (c q) (d q) day
      · exact .inr (.inr (.inr (.inr ⟨h1, h2, rfl, by show _ = _; rw [key, d1, d2, h3]; rfl⟩)))
      · exact .inr (.inr (.inr (.inl ⟨h1, h2, rfl, by show _ = _; rw [key, d1, d2, h3]; rfl⟩)))
    · have d2 : decide (us k < c q) = false := by simpa using h2
      exact .inr (.inr (.inl ⟨h1, by omega, by show _ = _; rw [key, d2]; simp⟩))
  · have d1 : decide (bo k ≤ day) = false := by simpa using h1
    by_cases h2 : us k < c q
    · exact .inr (.inl ⟨by omega, h2, by show _ = _; rw [key, d1]; simp⟩)
    · exact .inl ⟨by omega, by omega, by show _ = _; rw [key, d1]; simp⟩
attribute [irreducible] exB
def exC (n : Nat) (a : Nat → ByteArray) (b c d : Nat → Int) (m : Nat) (t : Nat → ByteArray) (bo us : Nat → Int) (day : Int) : Int := fcode n a b c d (inB day 0 36524 && soldB m t bo us) m t
def exL (n : Nat) (a : Nat → ByteArray) (b c d : Nat → Int) (m : Nat) (t : Nat → ByteArray) (bo us : Nat → Int) (day : Int) : List Int := if exC n a b c d m t bo us day = 0 then picks (exB n a c d t bo us day) m else []
section
variable {n : Nat} {a : Nat → ByteArray} {b c d : Nat → Int} {m : Nat} {t : Nat → ByteArray} {bo us : Nat → Int} {day x : Int}
theorem exL_no (h : exC n a b c d m t bo us day = x) (hx : x = 1 ∨ x = 2 ∨ x = 3) : exL n a b c d m t bo us day = [] := by unfold exL; rw [h, if_neg (by omega)]
theorem exL_yes (h : exC n a b c d m t bo us day = 0) : exL n a b c d m t bo us day = picks (exB n a c d t bo us day) m := by unfold exL; rw [if_pos h]
theorem exL_len (hm : m ≤ 17592186044416) : (exL n a b c d m t bo us day).length ≤ 17592186044416 := by
  unfold exL; split
  · have := picks_len (exB n a c d t bo us day) m; omega
  · simp
end
theorem exC_eq (n : Nat) (a : Nat → ByteArray) (b c d : Nat → Int) (m : Nat) (t : Nat → ByteArray) (bo us : Nat → Int) (day : Int) : fcode n a b c d (inB day 0 36524 && soldB m t bo us) m t = exC n a b c d m t bo us day := rfl
attribute [irreducible] exC exL
def ExPost (n : Nat) (a : Nat → ByteArray) (b c d : Nat → Int) (m : Nat) (t : Nat → ByteArray) (bo us : Nat → Int) (day : Int) (W : World) (e : Ending) (W' : World) : Prop :=
  ∃ g, e = .returned (.tuple #[g, .int .i64 (exC n a b c d m t bo us day)]) ∧ Below W.heap.size W W' ∧ Out W' W.heap.size 2 1 g (exL n a b c d m t bo us day).length (ic (lz (exL n a b c d m t bo us day)))

set_option maxHeartbeats 3200000 in
theorem s_ExpiredOf (v : Value) (n : Nat) (a : Nat → ByteArray) (b c d : Nat → Int) (v2 : Value) (m : Nat) (t : Nat → ByteArray) (bo us : Nat → Int) (day : Int) (W : World) (hs : Sl W v 4 n (gc a b c d)) (hx : Hid (∀ i, i < n → ((a i).size : Int) ≤ 1048576)) (hs2 : Sl W v2 3 m (kc t bo us)) (hx2 : Hid (∀ i, i < m → ((t i).size : Int) ≤ 1048576)) :
    Calls Try.prog 23 #[v, v2, .int .i64 day] W (ExPost n a b c d m t bo us day W) := by
  obtain ⟨i0, hi, hz0, hz1, hz2⟩ := info_parts infoInt
  have HAL := Lib.hid (s_l18All v n a b c d v2 m t bo us (inB day 0 36524) W hs hx hs2 hx2)
  have HFI := Lib.hid (fun id w h => s_find v n a b c d id w h)
  have HSA := hs
  have HSB := hs2
  obtain ⟨hn, ao, cap, rfl, hr⟩ := hs
  obtain ⟨hm, ao2, cap2, rfl, hr2⟩ := hs2
  unfold ExPost
  have HIN := fun h => inc_facts (n := n) (a := a) (b := b) (c := c) (d := d) (m := m) (t := t) (bo := bo) (us := us) (ok := inB day 0 36524) h
  have NO := Lib.hid (fun x hx h => exL_no (n := n) (a := a) (b := b) (c := c) (d := d) (m := m) (t := t) (bo := bo) (us := us) (day := day) (x := x) hx h)
  rcases (fcode_vals n a b c d (inB day 0 36524 && soldB m t bo us) m t) with h | h | h | h
  case inr.inr.inr =>
    obtain ⟨hok, hn8, hm100, HK, HBO⟩ := HIN h
    rw [exC_eq] at h
    rw [exC_eq] at HAL
    rw [exL_yes h, h]
    rw [h, hok] at HAL
    have hday := inB_out hok
    have EX := Lib.hid (fun k q hq => exB_cases (n := n) (a := a) (c := c) (d := d) (t := t) (bo := bo) (us := us) (day := day) (k := k) (q := q) hq)
    have HSD := Lib.hid (fun w => s_l02Day day w)
    rw [hok] at HSD
    clear h NO HIN hok
    generalize exB n a c d t bo us day = p at *
    go_enter Try.func23, Try.ntmps23
    go_wp2_with (first | (go_at_call 29; refine HAL.out.mono ?_; rintro e w1 ⟨rfl, hb1⟩) | (go_at_call 41; refine (HSD.out _).mono ?_; rintro e w' ⟨rfl, rfl⟩))
    have hs1 := hb1.size
    go_loopw [9, 10] (fun o i wr => ∃ (k : Nat) (x : Value) (L : List Int), k ≤ m ∧ i = .int .i64 k ∧ x = o ∧ Below W.heap.size W wr ∧ L.length ≤ k ∧ Hid (picks p k = L) ∧ Out wr W.heap.size 2 1 x L.length (ic (lz L))) (fun _ i _ => m - (intOf i).toNat)
    case atStart => exact ⟨0, _, [], by omega, rfl, rfl, kept_alloc hb1 _, Nat.le_refl _, picks_zero _, Out.empty _ _ _ _ _ hs1⟩
    case round =>
      clear hb1 HAL HSD hs1
      obtain ⟨k, x, L, hk, rfl, rfl, hb, hL, HL, hown⟩ := hrel
      by_cases hlt : k < m
      · rcases hr2 with h0 | ⟨g2, off2, rfl, hr2⟩
        · omega
        obtain ⟨t0, t1, t2⟩ := kccells (hr2.kept hb) hlt
        obtain ⟨q, hq, hfx, -, -, -⟩ := HK.out k hlt
        obtain ⟨hbo, hus⟩ := HBO.out k hlt
        rcases hr with h0 | ⟨g, off, rfl, hr⟩
        · omega
        obtain ⟨c0, c1, c2, c3⟩ := gccells (hr.kept hb) hq
        have HT := Lib.hid (HFI.out (t k) wr (HSA.kept hb))
        rw [hfx] at HT
        have HGD := Lib.hid (fun w (hw : Below wr.heap.size wr w) => s_l18Good g (off + q * 4) g2 (off2 + k * 3) (c q) (d q) (bo k) (us k) day w hbo hday (cell_keep hw c2) (cell_keep hw c3) (cell_keep hw t1) (cell_keep hw t2))
        have e1 : (q : Int) < n := by omega
        have k0 := fun dd os => cell_keep (below_regrown wr dd os) t1
        have k1 := fun dd os => cell_keep (below_regrown wr dd os) t2
        have k2 := fun dd os => cell_keep (below_regrown wr dd os) c2
        have HX := EX.out k q hfx
        clear hr hr2 hfx
        rcases HX with ⟨x1, x2, HV⟩ | ⟨x1, x2, HV⟩ | ⟨x1, x2, HV⟩ | ⟨x1, x2, x3, HV⟩ | ⟨x1, x2, x3, HV⟩
        · have HN : Hid (picks p (k + 1) = L) := by show picks _ _ = _; rw [picks_no HV.out, HL.out]
          have d1 : decide (bo k ≤ day) = false := by simp; omega
          have d2 : decide (us k < c q) = false := by simp; omega
          go_upto_region 9 with (go_at_call 31; refine HT.out.mono ?_; rintro e w' ⟨rfl, rfl⟩)
          refine wp_region_quiet_below (by kernel_rfl) (by kernel_rfl) ?_
          repeat (go_big_quiet_step ((first | (go_at_call 47; exact Calls.regrown_of (HGD.out _ (below_regrown _ _ _))))))
          refine wpQuiet_nil ?_
          intro w2 hw2
          have hk := below_of_regrown hw2
          clear hw2 k0 k1 k2
          obtain ⟨hc, hf⟩ := bcell hk
          have hz := hk.size
          try simp at hz
          have hownA := hown.kept hk
          have hbA := kept_trans hb hk
          clear hown hb
          go_wp2_with fail
          go_roundw
          case rel => exact ⟨k + 1, _, L, by omega, by go_num, rfl, hbA, by omega, HN, hownA⟩
          case measure => simp [intOf]; omega
        · have HN : Hid (picks p (k + 1) = L) := by show picks _ _ = _; rw [picks_no HV.out, HL.out]
          have d1 : decide (bo k ≤ day) = false := by simp; omega
          have d2 : decide (us k < c q) = true := by simp; omega
          go_upto_region 9 with (go_at_call 31; refine HT.out.mono ?_; rintro e w' ⟨rfl, rfl⟩)
          refine wp_region_quiet_below (by kernel_rfl) (by kernel_rfl) ?_
          repeat (go_big_quiet_step ((first | (go_at_call 47; exact Calls.regrown_of (HGD.out _ (below_regrown _ _ _))))))
          refine wpQuiet_nil ?_
          intro w2 hw2
          have hk := below_of_regrown hw2
          clear hw2 k0 k1 k2
          obtain ⟨hc, hf⟩ := bcell hk
          have hz := hk.size
          try simp at hz
          have hownA := hown.kept hk
          have hbA := kept_trans hb hk
          clear hown hb
          go_wp2_with fail
          go_roundw
          case rel => exact ⟨k + 1, _, L, by omega, by go_num, rfl, hbA, by omega, HN, hownA⟩
          case measure => simp [intOf]; omega
        · have HN : Hid (picks p (k + 1) = L) := by show picks _ _ = _; rw [picks_no HV.out, HL.out]
          have d1 : decide (bo k ≤ day) = true := by simp; omega
          have d2 : decide (us k < c q) = false := by simp; omega
          go_upto_region 9 with (go_at_call 31; refine HT.out.mono ?_; rintro e w' ⟨rfl, rfl⟩)
          refine wp_region_quiet_below (by kernel_rfl) (by kernel_rfl) ?_
          repeat (go_big_quiet_step ((first | (go_at_call 47; exact Calls.regrown_of (HGD.out _ (below_regrown _ _ _))))))
          refine wpQuiet_nil ?_
          intro w2 hw2
          have hk := below_of_regrown hw2
          clear hw2 k0 k1 k2
          obtain ⟨hc, hf⟩ := bcell hk
          have hz := hk.size
          try simp at hz
          have hownA := hown.kept hk
          have hbA := kept_trans hb hk
          clear hown hb
          go_wp2_with fail
          go_roundw
          case rel => exact ⟨k + 1, _, L, by omega, by go_num, rfl, hbA, by omega, HN, hownA⟩
          case measure => simp [intOf]; omega
        · have HN : Hid (picks p (k + 1) = L) := by show picks _ _ = _; rw [picks_no HV.out, HL.out]
          have HGD := Lib.hid (fun w hw => HGD.out w hw)
          rw [x3] at HGD
          clear x3
          have d1 : decide (bo k ≤ day) = true := by simp; omega
          have d2 : decide (us k < c q) = true := by simp; omega
          go_upto_region 9 with (go_at_call 31; refine HT.out.mono ?_; rintro e w' ⟨rfl, rfl⟩)
          refine wp_region_quiet_below (by kernel_rfl) (by kernel_rfl) ?_
          repeat (go_big_quiet_step ((first | (go_at_call 47; exact Calls.regrown_of (HGD.out _ (below_regrown _ _ _))))))
          refine wpQuiet_nil ?_
          intro w2 hw2
          have hk := below_of_regrown hw2
          clear hw2 k0 k1 k2
          obtain ⟨hc, hf⟩ := bcell hk
          have hz := hk.size
          try simp at hz
          have hownA := hown.kept hk
          have hbA := kept_trans hb hk
          clear hown hb
          go_wp2_with fail
          go_roundw
          case rel => exact ⟨k + 1, _, L, by omega, by go_num, rfl, hbA, by omega, HN, hownA⟩
          case measure => simp [intOf]; omega
        · have HN : Hid (picks p (k + 1) = L ++ [(k : Int)]) := by show picks _ _ = _; rw [picks_yes HV.out, HL.out]
          have HGD := Lib.hid (fun w hw => HGD.out w hw)
          rw [x3] at HGD
          clear x3
          have d1 : decide (bo k ≤ day) = true := by simp; omega
          have d2 : decide (us k < c q) = true := by simp; omega
          go_upto_region 9 with (go_at_call 31; refine HT.out.mono ?_; rintro e w' ⟨rfl, rfl⟩)
          refine wp_region_quiet_below (by kernel_rfl) (by kernel_rfl) ?_
          repeat (go_big_quiet_step ((first | (go_at_call 47; exact Calls.regrown_of (HGD.out _ (below_regrown _ _ _))))))
          refine wpQuiet_nil ?_
          intro w2 hw2
          have hk := below_of_regrown hw2
          clear hw2 k0 k1 k2
          obtain ⟨hc, hf⟩ := bcell hk
          have hz := hk.size
          try simp at hz
          have hownA := hown.kept hk
          have hbA := kept_trans hb hk
          clear hown hb
          go_wp2_with (at_builtin; refine wpList_append_own _ rfl _ _ 35 rfl _ 2 i0 _ 1 8 Try.underlying35 hi hz0 hz1 hz2 rfl (by decide) _ _ _ rfl ((hownA).row.alloc _) ⟨w2.heap.size, 0, none⟩ 1 1 _ (by rfl) (by rfl) (laid_at (by simp)) (by intro u hu; simp at hu; first | (rcases hu with rfl | rfl <;> rfl) | (subst hu; rfl)) (by simp only [maxLen]; omega) (by omega) (by have hbs := hbA.size; simp at hbs ⊢; omega) ?_; intro v1 w1 hown1 hgrow1 _)
          have R1 := Lib.hid (Out.snocL hown1)
          have R2 := below_of_append hbA hownA.row hgrow1
          clear hownA hown1 hgrow1
          try go_wp2
          go_roundw
          case rel => exact ⟨k + 1, _, L ++ [(k : Int)], by omega, by go_num, rfl, R2, by simp; omega, HN, R1.out⟩
          case measure => simp [intOf]; omega
      · obtain rfl : k = m := by omega
        clear hr hr2
        go_wp2
        refine bodyPost_ret (results_tmp2 rfl _ _ _) rfl ⟨_, rfl, hb, by rw [HL.out]; exact hown⟩
  all_goals
    rw [exC_eq] at h
    rw [exC_eq] at HAL
    rw [NO.out _ h (by omega), h]
    rw [h] at HAL
    have HSD := Lib.hid (fun w => s_l02Day day w)
    generalize inB day 0 36524 = ok at *
    clear h NO HIN hr hr2
    go_enter Try.func23, Try.ntmps23
    go_wp2_with (first | (go_at_call 29; refine HAL.out.mono ?_; rintro e w1 ⟨rfl, hb1⟩) | (go_at_call 41; refine (HSD.out _).mono ?_; rintro e w' ⟨rfl, rfl⟩))
    refine bodyPost_ret (results_tmp2 rfl _ _ _) rfl ⟨_, rfl, hb1, Out.nil _ _ _ _ _⟩

end Go.Proofs.Ytdecdlaopoglbaa
