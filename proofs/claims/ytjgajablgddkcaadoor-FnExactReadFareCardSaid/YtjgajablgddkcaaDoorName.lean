/- Names, as the program and the reference ask them; the order of texts. -/
import Derived.Test.YtjgajablgddkcaaDoorAggs
import Derived.WalkLawsBesides
import Derived.Laws.IdiomStrings
namespace Go.Proofs.YtjgajablgddkcaaDoor
open Go.RowKit Go.Deep
set_option linter.unusedVariables false

/-- Byte k of a text. -/
def byt (s : ByteArray) (k : Nat) : Int := ((s.data.getD k 0).toNat : Int)
theorem byt_bd (s : ByteArray) (k : Nat) : 0 ≤ byt s k ∧ byt s k ≤ 255 := by
  unfold byt
  have := (s.data.getD k 0).toNat_lt
  omega
theorem byt_at {s : ByteArray} {k : Nat} (h : k < s.data.size) : ((s.data[k].toNat : Nat) : Int) = byt s k := by simp [byt, Array.getD]; rw [dif_pos (show k < s.size from h)]
theorem byt_get {s : ByteArray} {k : Nat} (h : k < s.size) : ((s[k].toNat : Nat) : Int) = byt s k := byt_at (s := s) (k := k) h
attribute [irreducible] byt
def smallC (c : Int) : Bool := decide (97 ≤ c ∧ c ≤ 122)
def digitC (c : Int) : Bool := decide (48 ≤ c ∧ c ≤ 57)
def nameAt (s : ByteArray) (k : Nat) : Bool := smallC (byt s k) || (decide (0 < k) && digitC (byt s k))
theorem nameAt_yes {s : ByteArray} {k : Nat} (h : (97 ≤ byt s k ∧ byt s k ≤ 122) ∨ (48 ≤ byt s k ∧ byt s k ≤ 57 ∧ 0 < k)) : nameAt s k = true := by
  simp only [nameAt, smallC, digitC, Bool.or_eq_true, Bool.and_eq_true, decide_eq_true_eq]; omega
theorem nameAt_no {s : ByteArray} {k : Nat} (h : byt s k < 48 ∨ (57 < byt s k ∧ byt s k < 97) ∨ 122 < byt s k ∨ (byt s k < 97 ∧ k ≤ 0)) : nameAt s k = false := by
  cases e : nameAt s k
  · rfl
  · simp only [nameAt, smallC, digitC, Bool.or_eq_true, Bool.and_eq_true, decide_eq_true_eq] at e; omega
def isName (s : ByteArray) : Bool := decide (1 ≤ s.size ∧ s.size ≤ 10) && allTo (nameAt s) s.size
theorem isName_size {s : ByteArray} (h : s.size < 1 ∨ 10 < s.size) : isName s = false := by
  have : decide (1 ≤ s.size ∧ s.size ≤ 10) = false := by simp; omega
  unfold isName; rw [this]; rfl
theorem isName_no {s : ByteArray} {k : Nat} (hk : k < s.size) (h : nameAt s k = false) : isName s = false := by unfold isName; rw [allTo_no hk h, Bool.and_false]
theorem isName_yes {s : ByteArray} (h1 : 1 ≤ s.size) (h2 : s.size ≤ 10) (h : ∀ i, i < s.size → nameAt s i = true) : isName s = true := by
  have : decide (1 ≤ s.size ∧ s.size ≤ 10) = true := by simp; omega
  unfold isName; rw [allTo_yes h, this]; rfl
theorem isName_out {s : ByteArray} (h : isName s = true) : s.size ≤ 10 := by
  unfold isName at h
  simp only [Bool.and_eq_true, decide_eq_true_eq] at h
  exact h.1.2
attribute [irreducible] isName nameAt

theorem i_IsName (s : ByteArray) (W : World) (hs : s.size ≤ 140737488351232) : Calls Tryd.prog 61 #[.string s] W fun e W' => e = .returned (.bool (isName s)) ∧ Below W.heap.size W W' := by
  have hcv := fun w => run_bytes_of_string (P := Tryd.prog) w 9 101 5 s Tryd.underlying9 Tryd.underlying101 Tryd.underlying5
  have HCell : Hid (∀ cap k, k < s.size → ((W.alloc (.cells (bytesRow s cap) 5 ((bytesRow s cap).size, (bytesRow s cap).size + 1))).drew).cell? ⟨W.heap.size, k, none⟩ = some (.int .u8 (byt s k))) := fun cap k hk => by
    have h1 := bytesRow_at s cap k hk
    rw [byt_at hk] at h1
    rw [World.cell?_drew, World.cell?_alloc_mark]
    exact h1
  have HNo := Lib.hid (fun k => isName_no (s := s) (k := k))
  have HYes := Lib.hid (isName_yes (s := s))
  have HA := Lib.hid (fun k => nameAt_yes (s := s) (k := k))
  have HB := Lib.hid (fun k => nameAt_no (s := s) (k := k))
  have HBd := Lib.hid (byt_bd s)
  have HSz := Lib.hid (isName_size (s := s))
  generalize nameAt s = nm at *
  generalize isName s = R at *
  rcases (show s.size < 1 ∨ 10 < s.size ∨ (1 ≤ s.size ∧ s.size ≤ 10) by omega) with h | h | ⟨h, h'⟩
  · have hR := Lib.hid (HSz.out (.inl h))
    go_enter Tryd.func61, Tryd.ntmps61
    go_wp2
    go_ret
    exact ⟨by rw [hR.out]; rfl, (by repeat (first | assumption | exact Below.refl _ _ | refine kept_drew ?_ | refine kept_drewN ?_ _ | refine kept_alloc ?_ _ | refine kept_set ?_ ?_ _ | (simp; done) | (simp; omega) | refine kept_trans ?_ (by assumption)))⟩
  · have hR := Lib.hid (HSz.out (.inr h))
    go_enter Tryd.func61, Tryd.ntmps61
    go_wp2
    go_ret
    exact ⟨by rw [hR.out]; rfl, (by repeat (first | assumption | exact Below.refl _ _ | refine kept_drew ?_ | refine kept_drewN ?_ _ | refine kept_alloc ?_ _ | refine kept_set ?_ ?_ _ | (simp; done) | (simp; omega) | refine kept_trans ?_ (by assumption)))⟩
  · go_enter Tryd.func61, Tryd.ntmps61
    go_wp2
    go_loop [18] (fun i => ∃ k : Nat, k ≤ s.size ∧ i = .int .i64 k ∧ Hid (∀ i, i < k → nm i = true)) (fun i => s.size - (intOf i).toNat)
    case atStart => exact ⟨0, Nat.zero_le _, rfl, fun i hi => absurd hi (by omega)⟩
    case round =>
      obtain ⟨k, hk, rfl, hno⟩ := hrel
      by_cases hlt : k < s.size
      · have hc := HCell.out (grownCap W s.size 0 5) k hlt
        have hb := HBd.out k
        have hA := Lib.hid (HA.out k)
        have hB := Lib.hid (HB.out k)
        have hN := Lib.hid (HNo.out k hlt)
        clear HCell HA HB HBd HNo HYes HSz hcv
        generalize byt s k = c at *
        have hk10 : k ≤ 10 := by omega
        have GOOD : Hid (nm k = true → ∀ i, i < k + 1 → nm i = true) := fun h i hi => by
          by_cases e : i = k
          · rw [e]; exact h
          · exact hno.out i (by omega)
        rcases (show c < 48 ∨ (48 ≤ c ∧ c ≤ 57) ∨ (57 < c ∧ c < 97) ∨ (97 ≤ c ∧ c ≤ 122) ∨ 122 < c by omega) with h1 | ⟨h1, h2⟩ | ⟨h1, h2⟩ | ⟨h1, h2⟩ | h1
        · have d1 : decide (97 ≤ c) = false := by simp; omega
          have d2 : decide (c ≤ 122) = true := by simp; omega
          have d3 : decide (48 ≤ c) = false := by simp; omega
          have d4 : decide (c ≤ 57) = true := by simp; omega
          rcases (show k ≤ 0 ∨ 0 < k by omega) with h3 | h3
          · have hR := Lib.hid (hN.out (hB.out (by omega)))
            clear GOOD hA hB hN
            have hz : (k == 0) = true := by simp; omega
            go_wp2
            go_ret
            exact ⟨by rw [hR.out]; rfl, kept_drew (kept_alloc (Below.refl _ _) _)⟩
          · have hR := Lib.hid (hN.out (hB.out (by omega)))
            clear GOOD hA hB hN
            have hz : (k == 0) = false := by simp; omega
            go_wp2
            go_ret
            exact ⟨by rw [hR.out]; rfl, kept_drew (kept_alloc (Below.refl _ _) _)⟩
        · have d1 : decide (97 ≤ c) = false := by simp; omega
          have d2 : decide (c ≤ 122) = true := by simp; omega
          have d3 : decide (48 ≤ c) = true := by simp; omega
          have d4 : decide (c ≤ 57) = true := by simp; omega
          rcases (show k ≤ 0 ∨ 0 < k by omega) with h3 | h3
          · have hR := Lib.hid (hN.out (hB.out (by omega)))
            clear GOOD hA hB hN
            have hz : (k == 0) = true := by simp; omega
            go_wp2
            go_ret
            exact ⟨by rw [hR.out]; rfl, kept_drew (kept_alloc (Below.refl _ _) _)⟩
          · have hG := Lib.hid (GOOD.out (hA.out (by omega)))
            clear GOOD hA hB hN
            have hz : (k == 0) = false := by simp; omega
            go_wp2
            go_round
            case rel => exact ⟨k + 1, by omega, by go_num, hG⟩
            case measure => simp [intOf]; omega
        · have d1 : decide (97 ≤ c) = false := by simp; omega
          have d2 : decide (c ≤ 122) = true := by simp; omega
          have d3 : decide (48 ≤ c) = true := by simp; omega
          have d4 : decide (c ≤ 57) = false := by simp; omega
          rcases (show k ≤ 0 ∨ 0 < k by omega) with h3 | h3
          · have hR := Lib.hid (hN.out (hB.out (by omega)))
            clear GOOD hA hB hN
            have hz : (k == 0) = true := by simp; omega
            go_wp2
            go_ret
            exact ⟨by rw [hR.out]; rfl, kept_drew (kept_alloc (Below.refl _ _) _)⟩
          · have hR := Lib.hid (hN.out (hB.out (by omega)))
            clear GOOD hA hB hN
            have hz : (k == 0) = false := by simp; omega
            go_wp2
            go_ret
            exact ⟨by rw [hR.out]; rfl, kept_drew (kept_alloc (Below.refl _ _) _)⟩
        · have d1 : decide (97 ≤ c) = true := by simp; omega
          have d2 : decide (c ≤ 122) = true := by simp; omega
          have d3 : decide (48 ≤ c) = true := by simp; omega
          have d4 : decide (c ≤ 57) = false := by simp; omega
          have hG := Lib.hid (GOOD.out (hA.out (by omega)))
          clear GOOD hA hB hN
          go_wp2
          go_round
          case rel => exact ⟨k + 1, by omega, by go_num, hG⟩
          case measure => simp [intOf]; omega
        · have d1 : decide (97 ≤ c) = true := by simp; omega
          have d2 : decide (c ≤ 122) = false := by simp; omega
          have d3 : decide (48 ≤ c) = true := by simp; omega
          have d4 : decide (c ≤ 57) = false := by simp; omega
          rcases (show k ≤ 0 ∨ 0 < k by omega) with h3 | h3
          · have hR := Lib.hid (hN.out (hB.out (by omega)))
            clear GOOD hA hB hN
            have hz : (k == 0) = true := by simp; omega
            go_wp2
            go_ret
            exact ⟨by rw [hR.out]; rfl, kept_drew (kept_alloc (Below.refl _ _) _)⟩
          · have hR := Lib.hid (hN.out (hB.out (by omega)))
            clear GOOD hA hB hN
            have hz : (k == 0) = false := by simp; omega
            go_wp2
            go_ret
            exact ⟨by rw [hR.out]; rfl, kept_drew (kept_alloc (Below.refl _ _) _)⟩
      · obtain rfl : k = s.size := by omega
        have hR := Lib.hid (HYes.out h h' hno.out)
        go_wp2
        go_ret
        exact ⟨by rw [hR.out]; rfl, kept_drew (kept_alloc (Below.refl _ _) _)⟩

theorem s_l01Small (c : Int) (W : World) (h : 0 ≤ c ∧ c ≤ 255) : Calls Tryd.prog 60 #[.int .u8 c] W fun e W' => e = .returned (.bool (smallC c)) ∧ W = W' := by
  obtain ⟨h0, h1⟩ := h
  rcases (show c < 97 ∨ (97 ≤ c ∧ c ≤ 122) ∨ 122 < c by omega) with h | ⟨h, h'⟩ | h
  all_goals
    go_enter Tryd.func60, Tryd.ntmps60
    go_wp2
    go_ret
    exact ⟨ret_bool (by simp [smallC] <;> omega), rfl⟩

theorem s_l01Digit (c : Int) (W : World) (h : 0 ≤ c ∧ c ≤ 255) : Calls Tryd.prog 53 #[.int .u8 c] W fun e W' => e = .returned (.bool (digitC c)) ∧ W = W' := by
  obtain ⟨h0, h1⟩ := h
  rcases (show c < 48 ∨ (48 ≤ c ∧ c ≤ 57) ∨ 57 < c by omega) with h | ⟨h, h'⟩ | h
  all_goals
    go_enter Tryd.func53, Tryd.ntmps53
    go_wp2
    go_ret
    exact ⟨ret_bool (by simp [digitC] <;> omega), rfl⟩

end Go.Proofs.YtjgajablgddkcaaDoor
