/- Validity of groups and of fares. -/
import Derived.Test.YtjmklkhdemolmaaGreatDoorMrgA
namespace Go.Proofs.YtjmklkhdemolmaaGreatDoor
open Go.RowKit Go.Deep
set_option linter.unusedVariables false
set_option maxRecDepth 100000

/-! ### The order of texts -/
theorem less_total : ∀ a b : List UInt8, (Op.bytesLess a b || a == b) = !Op.bytesLess b a
  | [], [] => by simp [Op.bytesLess]
  | [], y :: ys => by simp [Op.bytesLess]
  | x :: xs, [] => by simp [Op.bytesLess]
  | x :: xs, y :: ys => by
    have ih := less_total xs ys
    simp only [Op.bytesLess]
    rcases (show x < y ∨ x = y ∨ y < x by
      rcases Nat.lt_trichotomy x.toNat y.toNat with h | h | h
      · exact .inl (UInt8.lt_iff_toNat_lt.2 h)
      · exact .inr (.inl (UInt8.toNat_inj.1 h))
      · exact .inr (.inr (UInt8.lt_iff_toNat_lt.2 h))) with h | h | h
    · have h1 : ¬ y < x := by rw [UInt8.lt_iff_toNat_lt] at *; omega
      have h2 : (y == x) = false := by
        rw [beq_eq_false_iff_ne]; intro e; subst e; rw [UInt8.lt_iff_toNat_lt] at h; omega
      have d1 : decide (x < y) = true := by simpa using h
      have d2 : decide (y < x) = false := by simpa using h1
      rw [d1, d2, h2]; rfl
    · subst h
      have d2 : decide (x < x) = false := by simp
      have h3 : ((x :: xs) == (x :: ys)) = (xs == ys) := by simp
      rw [d2, h3]
      simp only [Bool.false_or, beq_self_eq_true, Bool.true_and]
      exact ih
    · have h1 : ¬ x < y := by rw [UInt8.lt_iff_toNat_lt] at *; omega
      have h2 : (x == y) = false := by
        rw [beq_eq_false_iff_ne]; intro e; subst e; rw [UInt8.lt_iff_toNat_lt] at h; omega
      have d1 : decide (y < x) = true := by simpa using h
      have d2 : decide (x < y) = false := by simpa using h1
      have h3' : ((x :: xs) == (y :: ys)) = false := by rw [beq_eq_false_iff_ne] at *; intro e; exact h2 (by injection e)
      rw [d1, d2, h2, h3']; rfl
/-- The later text is not greater. -/
def leS (c p : ByteArray) : Bool := !Op.bytesLess p.toList c.toList
theorem leS_cases (c p : ByteArray) : (Op.bytesLess c.toList p.toList = true ∧ Op.bytesLess p.toList c.toList = false ∧ Hid (leS c p = true)) ∨
    (Op.bytesLess c.toList p.toList = false ∧ (c.toList == p.toList) = true ∧ Op.bytesLess p.toList c.toList = false ∧ Hid (leS c p = true)) ∨
    (Op.bytesLess c.toList p.toList = false ∧ (c.toList == p.toList) = false ∧ Op.bytesLess p.toList c.toList = true ∧ Hid (leS c p = false)) := by
  have h := less_total c.toList p.toList
  have hl : leS c p = !Op.bytesLess p.toList c.toList := rfl
  cases h1 : Op.bytesLess c.toList p.toList <;> cases h2 : (c.toList == p.toList) <;> cases h3 : Op.bytesLess p.toList c.toList
  all_goals rw [h1, h2, h3] at h
  all_goals rw [h3] at hl
  all_goals first | (exact absurd h (by decide)) | exact .inl ⟨rfl, rfl, hl⟩ | exact .inr (.inl ⟨rfl, rfl, rfl, hl⟩) | exact .inr (.inr ⟨rfl, rfl, rfl, hl⟩)
attribute [irreducible] leS

theorem s_l01Name (s : ByteArray) (W : World) (hs : s.size ≤ 140737488351232) : Calls Tryz.prog 54 #[.string s] W fun e W' => e = .returned (.bool (isName s)) ∧ W = W' := by
  have HNo := Lib.hid (fun k => isName_no (s := s) (k := k))
  have HYes := Lib.hid (isName_yes (s := s))
  have HB := Lib.hid (fun k => nameAt_no (s := s) (k := k))
  have HA := Lib.hid (fun k => nameAt_yes (s := s) (k := k))
  have HBd := Lib.hid (byt_bd s)
  have HSz := Lib.hid (isName_size (s := s))
  have HG : Hid (∀ k (h : k < s.size), ((s[k].toNat : Nat) : Int) = byt s k) := fun k h => byt_get h
  have HE1 : Hid (s.size < 1 → s.toList.isEmpty = true) := fun h => by
    rw [← decide_eq_emptyBytes]
    have : s = ByteArray.empty := by
      cases s with
      | mk d =>
        have hd : d.size < 1 := h
        have := Array.eq_empty_of_size_eq_zero (show d.size = 0 by omega)
        rw [this]; rfl
    simp [this]
  have HE0 : Hid (1 ≤ s.size → s.toList.isEmpty = false) := fun h => by
    rw [← decide_eq_emptyBytes]
    have : ¬ s = ByteArray.empty := fun e => by subst e; exact absurd h (by decide)
    simpa using this
  generalize nameAt s = nm at *
  generalize isName s = R at *
  rcases (show s.size < 1 ∨ 10 < s.size ∨ (1 ≤ s.size ∧ s.size ≤ 10) by omega) with h | h | ⟨h, h'⟩
  · have hR := Lib.hid (HSz.out (.inl h))
    have he := HE1.out h
    go_enter Tryz.func54, Tryz.ntmps54
    go_wp2
    go_ret
    exact ⟨by rw [hR.out]; rfl, rfl⟩
  · have hR := Lib.hid (HSz.out (.inr h))
    have he := HE0.out (by omega)
    go_enter Tryz.func54, Tryz.ntmps54
    go_wp2
    go_ret
    exact ⟨by rw [hR.out]; rfl, rfl⟩
  · have he := HE0.out h
    have hp0 : 0 < s.size := by omega
    have hb0 := HBd.out 0
    have g0 := HG.out 0 hp0
    have HS0 := Lib.hid (fun w => s_l01Small ((s[0].toNat : Nat) : Int) w (by omega))
    rcases (show (byt s 0 < 97 ∨ 122 < byt s 0) ∨ (97 ≤ byt s 0 ∧ byt s 0 ≤ 122) by omega) with hc | hc
    · have hR := Lib.hid (HNo.out 0 hp0 (HB.out 0 (by omega)))
      have hf : smallC ((s[0].toNat : Nat) : Int) = false := by rw [g0]; simp [smallC]; omega
      rw [hf] at HS0
      clear hf g0 hb0
      go_enter Tryz.func54, Tryz.ntmps54
      go_wp2_with (go_at_call 63; refine (HS0.out _).mono ?_; rintro e w' ⟨rfl, rfl⟩)
      go_ret
      exact ⟨by rw [hR.out]; rfl, rfl⟩
    · have hf : smallC ((s[0].toNat : Nat) : Int) = true := by rw [g0]; simp [smallC]; omega
      rw [hf] at HS0
      clear hf g0 hb0
      have HC0 := Lib.hid hc
      clear hc
      go_enter Tryz.func54, Tryz.ntmps54
      go_wp2_with (go_at_call 63; refine (HS0.out _).mono ?_; rintro e w' ⟨rfl, rfl⟩)
      go_loop [3] (fun i => ∃ k : Nat, k ≤ s.size ∧ i = .int .i64 k ∧ Hid (∀ i, i < k → nm i = true)) (fun i => s.size - (intOf i).toNat)
      case atStart => exact ⟨0, Nat.zero_le _, rfl, fun i hi => absurd hi (by omega)⟩
      case round =>
        obtain ⟨k, hk, rfl, hno⟩ := hrel
        by_cases hlt : k < s.size
        · have hbk := HBd.out k
          have gk := HG.out k hlt
          have HSk := Lib.hid (fun w => s_l01Small ((s[k].toNat : Nat) : Int) w (by omega))
          have HDk := Lib.hid (fun w => s_l01Digit ((s[k].toNat : Nat) : Int) w (by omega))
          have hA := Lib.hid (HA.out k)
          have hB := Lib.hid (HB.out k)
          have hN := Lib.hid (HNo.out k hlt)
          have h00 : k = 0 → 97 ≤ byt s k ∧ byt s k ≤ 122 := fun e => by rw [e]; exact HC0.out
          have GOOD : Hid (nm k = true → ∀ i, i < k + 1 → nm i = true) := fun h i hi => by
            by_cases e : i = k
            · rw [e]; exact h
            · exact hno.out i (by omega)
          rcases (show (97 ≤ byt s k ∧ byt s k ≤ 122) ∨ (48 ≤ byt s k ∧ byt s k ≤ 57) ∨ (byt s k < 48 ∨ (57 < byt s k ∧ byt s k < 97) ∨ 122 < byt s k) by omega) with hc | hc | hc
          · have hf : smallC ((s[k].toNat : Nat) : Int) = true := by rw [gk]; simp [smallC]; omega
            rw [hf] at HSk
            have hG := Lib.hid (GOOD.out (hA.out (by omega)))
            clear hf gk hbk hc h00 GOOD hA hB hN HDk HS0
            go_wp2_with (first | (go_at_call 63; refine (HSk.out _).mono ?_; rintro e w' ⟨rfl, rfl⟩))
            go_round
            case rel => exact ⟨k + 1, by omega, by go_num, hG⟩
            case measure => simp [intOf]; omega
          · have hk0 : 0 < k := by
              rcases (show k = 0 ∨ 0 < k by omega) with e | e
              · have := h00 e; omega
              · exact e
            have hf : smallC ((s[k].toNat : Nat) : Int) = false := by rw [gk]; simp [smallC]; omega
            have hf2 : digitC ((s[k].toNat : Nat) : Int) = true := by rw [gk]; simp [digitC]; omega
            rw [hf] at HSk
            rw [hf2] at HDk
            have hG := Lib.hid (GOOD.out (hA.out (by omega)))
            clear hf hf2 gk hbk hc h00 GOOD hA hB hN HS0
            go_wp2_with (first | (go_at_call 63; refine (HSk.out _).mono ?_; rintro e w' ⟨rfl, rfl⟩) | (go_at_call 64; refine (HDk.out _).mono ?_; rintro e w' ⟨rfl, rfl⟩))
            go_round
            case rel => exact ⟨k + 1, by omega, by go_num, hG⟩
            case measure => simp [intOf]; omega
          · have hf : smallC ((s[k].toNat : Nat) : Int) = false := by rw [gk]; simp [smallC]; omega
            have hf2 : digitC ((s[k].toNat : Nat) : Int) = false := by rw [gk]; simp [digitC]; omega
            rw [hf] at HSk
            rw [hf2] at HDk
            have hR := Lib.hid (hN.out (hB.out (by omega)))
            clear hf hf2 gk hbk hc h00 GOOD hA hB hN HS0
            go_wp2_with (first | (go_at_call 63; refine (HSk.out _).mono ?_; rintro e w' ⟨rfl, rfl⟩) | (go_at_call 64; refine (HDk.out _).mono ?_; rintro e w' ⟨rfl, rfl⟩))
            go_ret
            exact ⟨by rw [hR.out]; rfl, rfl⟩
        · obtain rfl : k = s.size := by omega
          have hR := Lib.hid (HYes.out h h' hno.out)
          go_wp2
          go_ret
          exact ⟨by rw [hR.out]; rfl, rfl⟩

def vGr (s : ByteArray) (b c d : Int) : Bool := isName s && inB b 1 200 && inB c 0 40 && inB d 0 100000
theorem vGr_out {s : ByteArray} {b c d : Int} (h : vGr s b c d = true) : isName s = true ∧ (1 ≤ b ∧ b ≤ 200) ∧ (0 ≤ c ∧ c ≤ 40) ∧ (0 ≤ d ∧ d ≤ 100000) := by
  simp only [vGr, Bool.and_eq_true, inB_iff] at h
  exact ⟨h.1.1.1, h.1.1.2, h.1.2, h.2⟩
theorem vGr_cases (s : ByteArray) (b c d : Int) : (isName s = false ∧ Hid (vGr s b c d = false)) ∨ (isName s = true ∧ inB b 1 200 = false ∧ Hid (vGr s b c d = false)) ∨ (isName s = true ∧ inB b 1 200 = true ∧ inB c 0 40 = false ∧ Hid (vGr s b c d = false)) ∨
    (isName s = true ∧ inB b 1 200 = true ∧ inB c 0 40 = true ∧ Hid (vGr s b c d = inB d 0 100000)) := by
  have key : vGr s b c d = (isName s && inB b 1 200 && inB c 0 40 && inB d 0 100000) := rfl
  cases h1 : isName s
  · exact .inl ⟨rfl, by rw [h1] at key; exact key⟩
  · cases h2 : inB b 1 200
    · exact .inr (.inl ⟨rfl, rfl, by rw [h1, h2] at key; exact key⟩)
    · cases h3 : inB c 0 40
      · exact .inr (.inr (.inl ⟨rfl, rfl, rfl, by rw [h1, h2, h3] at key; exact key⟩))
      · exact .inr (.inr (.inr ⟨rfl, rfl, rfl, by rw [h1, h2, h3] at key; exact key⟩))
attribute [irreducible] vGr

/-- Element k is valid, and greater than the one ahead of it. -/
def vGrAt (a : Nat → ByteArray) (b c d : Nat → Int) (k : Nat) : Bool := vGr (a k) (b k) (c k) (d k) && (decide (k = 0) || !leS (a k) (a (k - 1)))
def vGroups (n : Nat) (a : Nat → ByteArray) (b c d : Nat → Int) : Bool := allTo (vGrAt a b c d) n && decide (n ≤ 12)
theorem vGroups_out {n : Nat} {a : Nat → ByteArray} {b c d : Nat → Int} (h : vGroups n a b c d = true) : n ≤ 12 ∧ ∀ i, i < n → vGr (a i) (b i) (c i) (d i) = true := by
  simp only [vGroups, Bool.and_eq_true, decide_eq_true_eq] at h
  refine ⟨h.2, fun i hi => ?_⟩
  have := allTo_out h.1 i hi
  simp only [vGrAt, Bool.and_eq_true] at this
  exact this.1
theorem vGroups_no {n k : Nat} {a : Nat → ByteArray} {b c d : Nat → Int} (hk : k < n) (h : vGrAt a b c d k = false) : vGroups n a b c d = false := by
  unfold vGroups; rw [allTo_no hk h]; rfl
theorem vGroups_end {n : Nat} {a : Nat → ByteArray} {b c d : Nat → Int} (h : ∀ i, i < n → vGrAt a b c d i = true) : vGroups n a b c d = decide (n ≤ 12) := by
  unfold vGroups; rw [allTo_yes h]; rfl
theorem vGrAt_cases (a : Nat → ByteArray) (b c d : Nat → Int) (k : Nat) :
    (vGr (a k) (b k) (c k) (d k) = false ∧ Hid (vGrAt a b c d k = false)) ∨
    (vGr (a k) (b k) (c k) (d k) = true ∧ k = 0 ∧ Hid (vGrAt a b c d k = true)) ∨
    (vGr (a k) (b k) (c k) (d k) = true ∧ 0 < k ∧ leS (a k) (a (k - 1)) = true ∧ Hid (vGrAt a b c d k = false)) ∨
    (vGr (a k) (b k) (c k) (d k) = true ∧ 0 < k ∧ leS (a k) (a (k - 1)) = false ∧ Hid (vGrAt a b c d k = true)) := by
  have key : vGrAt a b c d k = (vGr (a k) (b k) (c k) (d k) && (decide (k = 0) || !leS (a k) (a (k - 1)))) := rfl
  cases h1 : vGr (a k) (b k) (c k) (d k)
  · exact .inl ⟨rfl, by rw [h1] at key; exact key⟩
  · by_cases h0 : k = 0
    · exact .inr (.inl ⟨rfl, h0, by rw [h1] at key; show _ = _; rw [key]; simp [h0]⟩)
    · cases h2 : leS (a k) (a (k - 1))
      · exact .inr (.inr (.inr ⟨rfl, by omega, rfl, by rw [h1, h2] at key; show _ = _; rw [key]; simp⟩))
      · exact .inr (.inr (.inl ⟨rfl, by omega, rfl, by rw [h1, h2] at key; show _ = _; rw [key]; simp [h0]⟩))
attribute [irreducible] vGrAt vGroups

def vFa (s : ByteArray) (b c d : Int) : Bool := isName s && inB b 0 100000 && inB c 1 1000 && inB d 1 400
theorem vFa_out {s : ByteArray} {b c d : Int} (h : vFa s b c d = true) : isName s = true ∧ (0 ≤ b ∧ b ≤ 100000) ∧ (1 ≤ c ∧ c ≤ 1000) ∧ (1 ≤ d ∧ d ≤ 400) := by
  simp only [vFa, Bool.and_eq_true, inB_iff] at h
  exact ⟨h.1.1.1, h.1.1.2, h.1.2, h.2⟩
theorem vFa_cases (s : ByteArray) (b c d : Int) : (isName s = false ∧ Hid (vFa s b c d = false)) ∨ (isName s = true ∧ inB b 0 100000 = false ∧ Hid (vFa s b c d = false)) ∨ (isName s = true ∧ inB b 0 100000 = true ∧ inB c 1 1000 = false ∧ Hid (vFa s b c d = false)) ∨
    (isName s = true ∧ inB b 0 100000 = true ∧ inB c 1 1000 = true ∧ Hid (vFa s b c d = inB d 1 400)) := by
  have key : vFa s b c d = (isName s && inB b 0 100000 && inB c 1 1000 && inB d 1 400) := rfl
  cases h1 : isName s
  · exact .inl ⟨rfl, by rw [h1] at key; exact key⟩
  · cases h2 : inB b 0 100000
    · exact .inr (.inl ⟨rfl, rfl, by rw [h1, h2] at key; exact key⟩)
    · cases h3 : inB c 1 1000
      · exact .inr (.inr (.inl ⟨rfl, rfl, rfl, by rw [h1, h2, h3] at key; exact key⟩))
      · exact .inr (.inr (.inr ⟨rfl, rfl, rfl, by rw [h1, h2, h3] at key; exact key⟩))
attribute [irreducible] vFa

theorem i_validFare (s : ByteArray) (b c d : Int) (W : World) (hs : (s.size : Int) ≤ 1048576) : Calls Tryz.prog 31 #[.agg #[.string s, .int .i64 b, .int .i64 c, .int .i64 d]] W fun e W' => e = .returned (.bool (vFa s b c d)) ∧ Below W.heap.size W W' := by
  have Q1 : Hid ((W.alloc (.cells #[.string s, .int .i64 b, .int .i64 c, .int .i64 d] 32)).cell? ⟨W.heap.size, 1, none⟩ = some (.int .i64 b)) := boxed_at rfl rfl
  have Q2 : Hid ((W.alloc (.cells #[.string s, .int .i64 b, .int .i64 c, .int .i64 d] 32)).cell? ⟨W.heap.size, 2, none⟩ = some (.int .i64 c)) := boxed_at rfl rfl
  have Q3 : Hid ((W.alloc (.cells #[.string s, .int .i64 b, .int .i64 c, .int .i64 d] 32)).cell? ⟨W.heap.size, 3, none⟩ = some (.int .i64 d)) := boxed_at rfl rfl
  have HN := Lib.hid (fun w => i_IsName s w (by omega))
  rcases vFa_cases s b c d with ⟨h1, HV⟩ | ⟨h1, h2, HV⟩ | ⟨h1, h2, h3, HV⟩ | ⟨h1, h2, h3, HV⟩
  all_goals
    rw [h1] at HN
    go_enter Tryz.func31, Tryz.ntmps31
    go_wp2_with (first | (go_at_call 47; refine (HN.out _).mono ?_; rintro e w1 ⟨rfl, hb1⟩; have q1 := cell_keep hb1 Q1.out; have q2 := cell_keep hb1 Q2.out; have q3 := cell_keep hb1 Q3.out) | (go_at_call 48; refine (i_within _ _ _ _).mono ?_; rintro e w' ⟨rfl, rfl⟩) | (go_at_call 48; refine (i_within _ _ _ _).mono ?_; rintro e w' ⟨rfl, rfl⟩))
    go_ret
    exact ⟨by rw [HV.out]; rfl, kept_trans (kept_alloc (Below.refl _ _) _) hb1⟩

theorem s_oneFare (s : ByteArray) (b c d : Int) (g o : Nat) (W : World) (hs : (s.size : Int) ≤ 1048576) (c0 : W.cell? ⟨g, o, none⟩ = some (.string s)) (c1 : W.cell? ⟨g, o + 1, none⟩ = some (.int .i64 b)) (c2 : W.cell? ⟨g, o + 2, none⟩ = some (.int .i64 c)) (c3 : W.cell? ⟨g, o + 3, none⟩ = some (.int .i64 d)) :
    Calls Tryz.prog 39 #[.pointer (some ⟨g, o, none⟩)] W fun e W' => e = .returned (.bool (vFa s b c d)) ∧ W = W' := by
  have HN := Lib.hid (fun w => s_l01Name s w (by omega))
  rcases vFa_cases s b c d with ⟨h1, HV⟩ | ⟨h1, h2, HV⟩ | ⟨h1, h2, h3, HV⟩ | ⟨h1, h2, h3, HV⟩
  all_goals
    rw [h1] at HN
    go_enter Tryz.func39, Tryz.ntmps39
    go_wp2_with (first | (go_at_call 54; refine (HN.out _).mono ?_; rintro e w' ⟨rfl, rfl⟩) | (go_at_call 40; refine (s_l00In _ _ _ _).mono ?_; rintro e w' ⟨rfl, rfl⟩))
    go_ret
    exact ⟨by rw [HV.out]; rfl, rfl⟩

/-- Element k is valid, and greater than the one ahead of it. -/
def vFaAt (a : Nat → ByteArray) (b c d : Nat → Int) (k : Nat) : Bool := vFa (a k) (b k) (c k) (d k) && (decide (k = 0) || !leS (a k) (a (k - 1)))
def vFares (n : Nat) (a : Nat → ByteArray) (b c d : Nat → Int) : Bool := allTo (vFaAt a b c d) n && decide (n ≤ 8)
theorem vFares_out {n : Nat} {a : Nat → ByteArray} {b c d : Nat → Int} (h : vFares n a b c d = true) : n ≤ 8 ∧ ∀ i, i < n → vFa (a i) (b i) (c i) (d i) = true := by
  simp only [vFares, Bool.and_eq_true, decide_eq_true_eq] at h
  refine ⟨h.2, fun i hi => ?_⟩
  have := allTo_out h.1 i hi
  simp only [vFaAt, Bool.and_eq_true] at this
  exact this.1
theorem vFares_no {n k : Nat} {a : Nat → ByteArray} {b c d : Nat → Int} (hk : k < n) (h : vFaAt a b c d k = false) : vFares n a b c d = false := by
  unfold vFares; rw [allTo_no hk h]; rfl
theorem vFares_end {n : Nat} {a : Nat → ByteArray} {b c d : Nat → Int} (h : ∀ i, i < n → vFaAt a b c d i = true) : vFares n a b c d = decide (n ≤ 8) := by
  unfold vFares; rw [allTo_yes h]; rfl
theorem vFaAt_cases (a : Nat → ByteArray) (b c d : Nat → Int) (k : Nat) :
    (vFa (a k) (b k) (c k) (d k) = false ∧ Hid (vFaAt a b c d k = false)) ∨
    (vFa (a k) (b k) (c k) (d k) = true ∧ k = 0 ∧ Hid (vFaAt a b c d k = true)) ∨
    (vFa (a k) (b k) (c k) (d k) = true ∧ 0 < k ∧ leS (a k) (a (k - 1)) = true ∧ Hid (vFaAt a b c d k = false)) ∨
    (vFa (a k) (b k) (c k) (d k) = true ∧ 0 < k ∧ leS (a k) (a (k - 1)) = false ∧ Hid (vFaAt a b c d k = true)) := by
  have key : vFaAt a b c d k = (vFa (a k) (b k) (c k) (d k) && (decide (k = 0) || !leS (a k) (a (k - 1)))) := rfl
  cases h1 : vFa (a k) (b k) (c k) (d k)
  · exact .inl ⟨rfl, by rw [h1] at key; exact key⟩
  · by_cases h0 : k = 0
    · exact .inr (.inl ⟨rfl, h0, by rw [h1] at key; show _ = _; rw [key]; simp [h0]⟩)
    · cases h2 : leS (a k) (a (k - 1))
      · exact .inr (.inr (.inr ⟨rfl, by omega, rfl, by rw [h1, h2] at key; show _ = _; rw [key]; simp⟩))
      · exact .inr (.inr (.inl ⟨rfl, by omega, rfl, by rw [h1, h2] at key; show _ = _; rw [key]; simp [h0]⟩))
attribute [irreducible] vFaAt vFares

set_option maxHeartbeats 1600000 in
theorem i_listFare (v : Value) (n : Nat) (a : Nat → ByteArray) (b c d : Nat → Int) (W : World) (hs : Sl W v 4 n (gc a b c d)) (hx : Hid (∀ i, i < n → ((a i).size : Int) ≤ 1048576)) : Calls Tryz.prog 36 #[v] W fun e W' => e = .returned (.bool (vFares n a b c d)) ∧ Below W.heap.size W W' := by
  have HE : Hid ((∀ i, i < n → vFaAt a b c d i = true) → vFares n a b c d = decide (n ≤ 8)) := vFares_end
  have HX : Hid (∀ k, k < n → vFaAt a b c d k = false → vFares n a b c d = false) := fun k hk h => vFares_no hk h
  have HC := Lib.hid (vFaAt_cases a b c d)
  generalize vFaAt a b c d = at_ at *
  generalize vFares n a b c d = R at *
  obtain ⟨hn, ao, cap, rfl, hr⟩ := hs
  rcases hr with h0 | ⟨g, off, rfl, hr⟩
  · have h0' : n ≤ 0 := by omega
    clear h0
    go_enter Tryz.func36, Tryz.ntmps36
    go_wp2
    refine wp_loop_rounds 1 ?_
    rw [rounds_succ]
    go_wp2
    go_ret
    exact ⟨by rw [HE.out (fun i hi => by omega)]; exact ret_bool (by simp <;> omega), (by repeat (first | assumption | exact Below.refl _ _ | refine kept_drew ?_ | refine kept_drewN ?_ _ | refine kept_alloc ?_ _ | refine kept_set ?_ ?_ _ | (simp; done) | (simp; omega) | refine kept_trans ?_ (by assumption)))⟩
  · go_enter Tryz.func36, Tryz.ntmps36
    go_wp2
    go_loopw [7] (fun i wr => ∃ k : Nat, k ≤ n ∧ i = .int .i64 k ∧ Below W.heap.size W wr ∧ Hid (∀ i, i < k → at_ i = true)) (fun i _ => n - (intOf i).toNat)
    case atStart => exact ⟨0, Nat.zero_le _, rfl, (by repeat (first | assumption | exact Below.refl _ _ | refine kept_drew ?_ | refine kept_drewN ?_ _ | refine kept_alloc ?_ _ | refine kept_set ?_ ?_ _ | (simp; done) | (simp; omega) | refine kept_trans ?_ (by assumption))), fun i hi => by omega⟩
    case round =>
      obtain ⟨k, hk, rfl, hb, hno⟩ := hrel
      by_cases hlt : k < n
      · obtain ⟨hs0, hs1, hs2, hs3⟩ := gccells (hr.kept hb) hlt
        have hra : Row (wr.alloc (.cells #[.string (a k), .int .i64 (b k), .int .i64 (c k), .int .i64 (d k)] 32)) g off (n * 4) (gc a b c d) := (hr.kept hb).kept (kept_alloc (Below.refl _ _) _)
        obtain ⟨ht0, -, -, -⟩ := gccells hra (e := k - 1) (by omega)
        have k0 : ∀ dd os, (Go.Sort.grow (redrawn (wr.alloc (.cells #[.string (a k), .int .i64 (b k), .int .i64 (c k), .int .i64 (d k)] 32)) dd) os).cell? ⟨wr.heap.size, 0, none⟩ = some (.string (a k)) := fun dd os => boxed 0 _ rfl dd os
        have k1 : ∀ dd os, (Go.Sort.grow (redrawn (wr.alloc (.cells #[.string (a k), .int .i64 (b k), .int .i64 (c k), .int .i64 (d k)] 32)) dd) os).cell? ⟨wr.heap.size, 1, none⟩ = some (.int .i64 (b k)) := fun dd os => boxed 1 _ rfl dd os
        have k2 : ∀ dd os, (Go.Sort.grow (redrawn (wr.alloc (.cells #[.string (a k), .int .i64 (b k), .int .i64 (c k), .int .i64 (d k)] 32)) dd) os).cell? ⟨wr.heap.size, 2, none⟩ = some (.int .i64 (c k)) := fun dd os => boxed 2 _ rfl dd os
        have k3 : ∀ dd os, (Go.Sort.grow (redrawn (wr.alloc (.cells #[.string (a k), .int .i64 (b k), .int .i64 (c k), .int .i64 (d k)] 32)) dd) os).cell? ⟨wr.heap.size, 3, none⟩ = some (.int .i64 (d k)) := fun dd os => boxed 3 _ rfl dd os
        have k4 := cell_regrown ht0
        have HN : Hid (at_ k = true → ∀ i, i < k + 1 → at_ i = true) := fun h i hi => by
          by_cases e : i = k
          · rw [e]; exact h
          · exact hno.out i (by omega)
        have HX := Lib.hid (HX.out k hlt)
        have HC2 := HC.out k
        have HV := Lib.hid (fun w => i_validFare (a k) (b k) (c k) (d k) w (hx.out k hlt))
        clear hr hra ht0 HC HE
        rcases HC2 with ⟨hv, hp⟩ | ⟨hv, h0, hp⟩ | ⟨hv, h0, hle, hp⟩ | ⟨hv, h0, hle, hp⟩
        · rw [hv] at HV
          go_wp2_with fail
          refine wp_region_quiet_below (by kernel_rfl) (by kernel_rfl) ?_
          repeat (go_big_quiet_step ((first | (go_at_call 31; exact Calls.regrown_of (HV.out _)))))
          refine wpQuiet_nil ?_
          intro w2 hw2
          have hk := below_of_regrown hw2
          clear hw2 k0 k1 k2 k3 k4
          obtain ⟨hc, hf⟩ := bcell hk
          have hz := hk.size
          try simp at hz
          go_wp2_with fail
          go_ret
          exact ⟨by rw [HX.out hp.out]; rfl, (by repeat (first | assumption | exact Below.refl _ _ | refine kept_drew ?_ | refine kept_drewN ?_ _ | refine kept_alloc ?_ _ | refine kept_set ?_ ?_ _ | (simp; done) | (simp; omega) | refine kept_trans ?_ (by assumption)))⟩
        · rw [hv] at HV
          have h0' : k ≤ 0 := by omega
          have hd : decide (0 < k) = false := by simp; omega
          clear h0
          go_wp2_with fail
          refine wp_region_quiet_below (by kernel_rfl) (by kernel_rfl) ?_
          repeat (go_big_quiet_step ((first | (go_at_call 31; exact Calls.regrown_of (HV.out _)))))
          refine wpQuiet_nil ?_
          intro w2 hw2
          have hk := below_of_regrown hw2
          clear hw2 k0 k1 k2 k3 k4
          obtain ⟨hc, hf⟩ := bcell hk
          have hz := hk.size
          try simp at hz
          go_wp2_with fail
          go_roundw
          case rel => exact ⟨k + 1, by omega, by go_num, (by repeat (first | assumption | exact Below.refl _ _ | refine kept_drew ?_ | refine kept_drewN ?_ _ | refine kept_alloc ?_ _ | refine kept_set ?_ ?_ _ | (simp; done) | (simp; omega) | refine kept_trans ?_ (by assumption))), HN.out hp.out⟩
          case measure => simp [intOf]; omega
        · rw [hv] at HV
          rcases leS_cases (a k) (a (k - 1)) with ⟨l1, l2, hl⟩ | ⟨l1, l2, l3, hl⟩ | ⟨l1, l2, l3, hl⟩
          · clear l2 hle
            go_wp2_with fail
            refine wp_region_quiet_below (by kernel_rfl) (by kernel_rfl) ?_
            repeat (go_big_quiet_step ((first | (go_at_call 31; exact Calls.regrown_of (HV.out _)))))
            refine wpQuiet_nil ?_
            intro w2 hw2
            have hk := below_of_regrown hw2
            clear hw2 k0 k1 k2 k3 k4
            obtain ⟨hc, hf⟩ := bcell hk
            have hz := hk.size
            try simp at hz
            go_wp2_with fail
            go_ret
            exact ⟨by rw [HX.out hp.out]; rfl, (by repeat (first | assumption | exact Below.refl _ _ | refine kept_drew ?_ | refine kept_drewN ?_ _ | refine kept_alloc ?_ _ | refine kept_set ?_ ?_ _ | (simp; done) | (simp; omega) | refine kept_trans ?_ (by assumption)))⟩
          · clear l3 hle
            go_wp2_with fail
            refine wp_region_quiet_below (by kernel_rfl) (by kernel_rfl) ?_
            repeat (go_big_quiet_step ((first | (go_at_call 31; exact Calls.regrown_of (HV.out _)))))
            refine wpQuiet_nil ?_
            intro w2 hw2
            have hk := below_of_regrown hw2
            clear hw2 k0 k1 k2 k3 k4
            obtain ⟨hc, hf⟩ := bcell hk
            have hz := hk.size
            try simp at hz
            go_wp2_with fail
            go_ret
            exact ⟨by rw [HX.out hp.out]; rfl, (by repeat (first | assumption | exact Below.refl _ _ | refine kept_drew ?_ | refine kept_drewN ?_ _ | refine kept_alloc ?_ _ | refine kept_set ?_ ?_ _ | (simp; done) | (simp; omega) | refine kept_trans ?_ (by assumption)))⟩
          · rw [hl.out] at hle; cases hle
        · rw [hv] at HV
          rcases leS_cases (a k) (a (k - 1)) with ⟨l1, l2, hl⟩ | ⟨l1, l2, l3, hl⟩ | ⟨l1, l2, l3, hl⟩
          · rw [hl.out] at hle; cases hle
          · rw [hl.out] at hle; cases hle
          · clear l3 hle
            go_wp2_with fail
            refine wp_region_quiet_below (by kernel_rfl) (by kernel_rfl) ?_
            repeat (go_big_quiet_step ((first | (go_at_call 31; exact Calls.regrown_of (HV.out _)))))
            refine wpQuiet_nil ?_
            intro w2 hw2
            have hk := below_of_regrown hw2
            clear hw2 k0 k1 k2 k3 k4
            obtain ⟨hc, hf⟩ := bcell hk
            have hz := hk.size
            try simp at hz
            go_wp2_with fail
            go_roundw
            case rel => exact ⟨k + 1, by omega, by go_num, (by repeat (first | assumption | exact Below.refl _ _ | refine kept_drew ?_ | refine kept_drewN ?_ _ | refine kept_alloc ?_ _ | refine kept_set ?_ ?_ _ | (simp; done) | (simp; omega) | refine kept_trans ?_ (by assumption))), HN.out hp.out⟩
            case measure => simp [intOf]; omega
      · have HE := Lib.hid (HE.out (fun i hi => hno.out i (by omega)))
        go_wp2
        go_ret
        exact ⟨by rw [HE.out]; exact ret_bool (by simp <;> omega), hb⟩

set_option maxHeartbeats 1600000 in
theorem s_listFare (v : Value) (n : Nat) (a : Nat → ByteArray) (b c d : Nat → Int) (W : World) (hs : Sl W v 4 n (gc a b c d)) (hx : Hid (∀ i, i < n → ((a i).size : Int) ≤ 1048576)) : Calls Tryz.prog 20 #[v] W fun e W' => e = .returned (.bool (vFares n a b c d)) ∧ Below W.heap.size W W' := by
  have HE : Hid ((∀ i, i < n → vFaAt a b c d i = true) → vFares n a b c d = decide (n ≤ 8)) := vFares_end
  have HX : Hid (∀ k, k < n → vFaAt a b c d k = false → vFares n a b c d = false) := fun k hk h => vFares_no hk h
  have HC := Lib.hid (vFaAt_cases a b c d)
  generalize vFaAt a b c d = at_ at *
  generalize vFares n a b c d = R at *
  obtain ⟨hn, ao, cap, rfl, hr⟩ := hs
  rcases hr with h0 | ⟨g, off, rfl, hr⟩
  · have h0' : n ≤ 0 := by omega
    clear h0
    go_enter Tryz.func20, Tryz.ntmps20
    go_wp2
    refine wp_loop_rounds 1 ?_
    rw [rounds_succ]
    go_wp2
    go_ret
    exact ⟨by rw [HE.out (fun i hi => by omega)]; exact ret_bool (by simp <;> omega), (by repeat (first | assumption | exact Below.refl _ _ | refine kept_drew ?_ | refine kept_drewN ?_ _ | refine kept_alloc ?_ _ | refine kept_set ?_ ?_ _ | (simp; done) | (simp; omega) | refine kept_trans ?_ (by assumption)))⟩
  · go_enter Tryz.func20, Tryz.ntmps20
    go_wp2
    go_loopw [3] (fun i wr => ∃ k : Nat, k ≤ n ∧ i = .int .i64 k ∧ Below W.heap.size W wr ∧ Hid (∀ i, i < k → at_ i = true)) (fun i _ => n - (intOf i).toNat)
    case atStart => exact ⟨0, Nat.zero_le _, rfl, (by repeat (first | assumption | exact Below.refl _ _ | refine kept_drew ?_ | refine kept_drewN ?_ _ | refine kept_alloc ?_ _ | refine kept_set ?_ ?_ _ | (simp; done) | (simp; omega) | refine kept_trans ?_ (by assumption))), fun i hi => by omega⟩
    case round =>
      obtain ⟨k, hk, rfl, hb, hno⟩ := hrel
      by_cases hlt : k < n
      · obtain ⟨hs0, hs1, hs2, hs3⟩ := gccells (hr.kept hb) hlt
        obtain ⟨ht0, -, -, -⟩ := gccells (hr.kept hb) (e := k - 1) (by omega)
        have HN : Hid (at_ k = true → ∀ i, i < k + 1 → at_ i = true) := fun h i hi => by
          by_cases e : i = k
          · rw [e]; exact h
          · exact hno.out i (by omega)
        have HX := Lib.hid (HX.out k hlt)
        have HC2 := HC.out k
        have HV := fun m => (s_oneFare (a k) (b k) (c k) (d k) g (off + k * 4) (wr.drewN m) (hx.out k hlt) hs0 hs1 hs2 hs3).mono (fun _ _ ⟨he, hw⟩ => (⟨he, hw.symm⟩ : _ ∧ _ = _))
        clear hr HC HE
        rcases HC2 with ⟨hv, hp⟩ | ⟨hv, h0, hp⟩ | ⟨hv, h0, hle, hp⟩ | ⟨hv, h0, hle, hp⟩
        · rw [hv] at HV
          have HV := Lib.hid HV
          go_wp2_with fail
          go_quiet ((go_at_call 39; exact Calls.quiet_of_same (HV.out _)))
          go_wp2_with fail
          go_ret
          exact ⟨by rw [HX.out hp.out]; rfl, (by repeat (first | assumption | exact Below.refl _ _ | refine kept_drew ?_ | refine kept_drewN ?_ _ | refine kept_alloc ?_ _ | refine kept_set ?_ ?_ _ | (simp; done) | (simp; omega) | refine kept_trans ?_ (by assumption)))⟩
        · rw [hv] at HV
          have HV := Lib.hid HV
          have h0' : k ≤ 0 := by omega
          have hd : decide (0 < k) = false := by simp; omega
          clear h0
          go_wp2_with fail
          go_quiet ((go_at_call 39; exact Calls.quiet_of_same (HV.out _)))
          go_wp2_with fail
          go_roundw
          case rel => exact ⟨k + 1, by omega, by go_num, (by repeat (first | assumption | exact Below.refl _ _ | refine kept_drew ?_ | refine kept_drewN ?_ _ | refine kept_alloc ?_ _ | refine kept_set ?_ ?_ _ | (simp; done) | (simp; omega) | refine kept_trans ?_ (by assumption))), HN.out hp.out⟩
          case measure => simp [intOf]; omega
        · rw [hv] at HV
          have HV := Lib.hid HV
          have l2 : Op.bytesLess (a (k - 1)).toList (a k).toList = false := by
            rcases leS_cases (a k) (a (k - 1)) with ⟨l1, l2, hl⟩ | ⟨l1, l2, l3, hl⟩ | ⟨l1, l2, l3, hl⟩
            · exact l2
            · exact l3
            · rw [hl.out] at hle; cases hle
          clear hle
          go_wp2_with fail
          go_quiet ((go_at_call 39; exact Calls.quiet_of_same (HV.out _)))
          go_wp2_with fail
          go_ret
          exact ⟨by rw [HX.out hp.out]; rfl, (by repeat (first | assumption | exact Below.refl _ _ | refine kept_drew ?_ | refine kept_drewN ?_ _ | refine kept_alloc ?_ _ | refine kept_set ?_ ?_ _ | (simp; done) | (simp; omega) | refine kept_trans ?_ (by assumption)))⟩
        · rw [hv] at HV
          have HV := Lib.hid HV
          have l2 : Op.bytesLess (a (k - 1)).toList (a k).toList = true := by
            rcases leS_cases (a k) (a (k - 1)) with ⟨l1, l2, hl⟩ | ⟨l1, l2, l3, hl⟩ | ⟨l1, l2, l3, hl⟩
            · rw [hl.out] at hle; cases hle
            · rw [hl.out] at hle; cases hle
            · exact l3
          clear hle
          go_wp2_with fail
          go_quiet ((go_at_call 39; exact Calls.quiet_of_same (HV.out _)))
          go_wp2_with fail
          go_roundw
          case rel => exact ⟨k + 1, by omega, by go_num, (by repeat (first | assumption | exact Below.refl _ _ | refine kept_drew ?_ | refine kept_drewN ?_ _ | refine kept_alloc ?_ _ | refine kept_set ?_ ?_ _ | (simp; done) | (simp; omega) | refine kept_trans ?_ (by assumption))), HN.out hp.out⟩
          case measure => simp [intOf]; omega
      · have HE := Lib.hid (HE.out (fun i hi => hno.out i (by omega)))
        go_wp2
        go_ret
        exact ⟨by rw [HE.out]; exact ret_bool (by simp <;> omega), hb⟩

end Go.Proofs.YtjmklkhdemolmaaGreatDoor
