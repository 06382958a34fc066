/- A number read in decimal: the specification. -/
import Derived.Test.YtjgajablgddkcaaDoorNumI
import Derived.Test.YtjgajablgddkcaaDoorName
namespace Go.Proofs.YtjgajablgddkcaaDoor
open Go.RowKit Go.Deep
set_option linter.unusedVariables false
set_option maxRecDepth 100000

theorem byt_list {s : ByteArray} {k : Nat} (h : k < s.size) : ∃ c : UInt8, s.data.toList[k]? = some c ∧ (c.toNat : Int) = byt s k :=
  ⟨s.data[k]'h, by simp, byt_at h⟩
/-- The number of the digits from a up to k. -/
def pv (s : ByteArray) (a k : Nat) : Int := (vD 0 ((s.data.toList.drop a).take (k - a)) : Nat)
/-- All are digits from a up to k. -/
def digs (s : ByteArray) (a k : Nat) : Prop := ∀ i, a ≤ i → i < k → 48 ≤ byt s i ∧ byt s i ≤ 57
theorem pv_zero (s : ByteArray) (a : Nat) : pv s a a = 0 := by unfold pv; rw [Nat.sub_self, List.take_zero]; rfl
theorem take_step {s : ByteArray} {a k : Nat} (ha : a ≤ k) (hk : k < s.size) : ∃ c : UInt8, (c.toNat : Int) = byt s k ∧ (s.data.toList.drop a).take (k + 1 - a) = (s.data.toList.drop a).take (k - a) ++ [c] := by
  obtain ⟨c, h1, h2⟩ := byt_list hk
  refine ⟨c, h2, ?_⟩
  rw [show k + 1 - a = (k - a) + 1 by omega, List.take_add_one, List.getElem?_drop, show a + (k - a) = k by omega, h1]
  rfl
theorem pv_step {s : ByteArray} {a k : Nat} (ha : a ≤ k) (hk : k < s.size) (h : 48 ≤ byt s k) : pv s a (k + 1) = 10 * pv s a k + (byt s k - 48) := by
  obtain ⟨c, h1, h2⟩ := take_step ha hk
  unfold pv
  rw [h2, vD_snoc]
  omega
theorem digs_all {s : ByteArray} {a : Nat} (k : Nat) (hk : k ≤ s.size) (h : digs s a k) : ((s.data.toList.drop a).take (k - a)).all isD = true := by
  induction k with
  | zero => simp
  | succ k ih =>
    by_cases ha : a ≤ k
    · obtain ⟨c, h1, h2⟩ := take_step ha (show k < s.size by omega)
      have h3 := h k ha (by omega)
      rw [h2, List.all_append, ih (by omega) (fun i h4 h5 => h i h4 (by omega))]
      have : isD c = true := isD_iff.2 (by omega)
      simp [this]
    · rw [show k + 1 - a = 0 by omega]; simp
theorem pv_bd {s : ByteArray} {a k : Nat} (hk : k ≤ s.size) (h : digs s a k) (h18 : k - a ≤ 18) : 0 ≤ pv s a k ∧ pv s a k < 1000000000000000000 := by
  have h1 := digs_all k hk h
  have h2 := vD_18 h1 (by simp; omega)
  unfold pv
  omega
theorem size_list (s : ByteArray) : s.data.toList.length = s.size := by simp
theorem take_all (s : ByteArray) (a : Nat) : (s.data.toList.drop a).take (s.size - a) = s.data.toList.drop a := List.take_of_length_le (by simp)
theorem head_drop {s : ByteArray} {a : Nat} (ha : a < s.size) : (s.data.toList.drop a).head? = some 48 ↔ byt s a = 48 := by
  obtain ⟨c, h1, h2⟩ := byt_list ha
  rw [List.head?_drop, h1, Option.some_inj, ← h2]
  constructor
  · rintro rfl; rfl
  · intro h; exact UInt8.toNat_inj.1 (by show c.toNat = 48; omega)
theorem dOf_neg {s : ByteArray} (h : 0 < s.size) (hb : byt s 0 = 45) : dOf s.data.toList = s.data.toList.drop 1 ∧ s.data.toList.head? = some 45 := by
  obtain ⟨c, h1, h2⟩ := byt_list h
  have hc : c = 45 := UInt8.toNat_inj.1 (by show c.toNat = 45; omega)
  have h3 : s.data.toList.head? = some 45 := by rw [List.head?_eq_getElem?, h1, hc]
  exact ⟨by unfold dOf; rw [if_pos h3, List.drop_one], h3⟩
theorem dOf_pos {s : ByteArray} (h : s.size < 1 ∨ (0 < s.size ∧ byt s 0 ≠ 45)) : dOf s.data.toList = s.data.toList.drop 0 ∧ ¬ s.data.toList.head? = some 45 := by
  have h3 : ¬ s.data.toList.head? = some 45 := by
    rcases h with h | ⟨h, hb⟩
    · have : s.data.toList = [] := List.eq_nil_of_length_eq_zero (by rw [size_list]; omega)
      rw [this]; simp
    · obtain ⟨c, h1, h2⟩ := byt_list h
      rw [List.head?_eq_getElem?, h1]
      intro e
      injection e with e
      subst e
      exact hb h2.symm
  exact ⟨by unfold dOf; rw [if_neg h3]; rfl, h3⟩
theorem num_no {s : ByteArray} {a : Nat} (hd : dOf s.data.toList = s.data.toList.drop a) (h : s.size ≤ a ∨ 18 < s.size - a ∨ (a < s.size ∧ byt s a = 48 ∧ 1 < s.size) ∨ (∃ i, a ≤ i ∧ i < s.size ∧ (byt s i < 48 ∨ 57 < byt s i))) : numV s.data.toList = 0 ∧ numB s.data.toList = false := by
  have : numL s.data.toList = none := by
    unfold numL
    rw [hd, if_neg]
    rintro ⟨h1, h2, h3, h4⟩
    rcases h with h | h | ⟨ha, h5, h6⟩ | ⟨i, hi1, hi2, h5⟩
    · exact h1 (List.drop_eq_nil_of_le (by rw [size_list]; exact h))
    · simp at h2; omega
    · exact h4 ⟨(head_drop ha).2 h5, by rw [size_list]; exact h6⟩
    · obtain ⟨c, g1, g2⟩ := byt_list hi2
      have hm : c ∈ s.data.toList.drop a := List.mem_of_getElem? (i := i - a) (by rw [List.getElem?_drop, show a + (i - a) = i by omega, g1])
      have := isD_iff.1 (List.all_eq_true.1 h3 c hm)
      omega
  unfold numV numB
  rw [this]
  exact ⟨rfl, rfl⟩
theorem num_end {s : ByteArray} {a : Nat} (hd : dOf s.data.toList = s.data.toList.drop a) (h1 : a < s.size) (h2 : s.size - a ≤ 18) (h3 : digs s a s.size) (h4 : ¬ (byt s a = 48 ∧ 1 < s.size)) :
    (s.data.toList.head? = some 45 → numV s.data.toList = - pv s a s.size ∧ numB s.data.toList = true) ∧ (¬ s.data.toList.head? = some 45 → numV s.data.toList = pv s a s.size ∧ numB s.data.toList = true) := by
  have ha := digs_all s.size (Nat.le_refl _) h3
  rw [take_all] at ha
  have hn : numL s.data.toList = some (if s.data.toList.head? = some 45 then -(pv s a s.size) else pv s a s.size) := by
    unfold numL pv
    rw [hd, take_all, if_pos]
    refine ⟨fun e => ?_, by simp; omega, ha, fun e => h4 ⟨(head_drop h1).1 e.1, by rw [← size_list]; exact e.2⟩⟩
    have := congrArg List.length e
    simp at this
    omega
  unfold numV numB
  rw [hn]
  refine ⟨fun h => ?_, fun h => ?_⟩
  · rw [if_pos h]; exact ⟨rfl, rfl⟩
  · rw [if_neg h]; exact ⟨rfl, rfl⟩
attribute [irreducible] pv digs

set_option maxHeartbeats 4000000 in
theorem s_l01Number (s : ByteArray) (W : World) (hs : s.size ≤ 140737488351232) : Calls Tryd.prog 35 #[.string s] W fun e W' => e = .returned (.tuple #[.int .i64 (numV s.data.toList), .bool (numB s.data.toList)]) ∧ W = W' := by
  have HG : Hid (∀ k (h : k < s.size), ((s[k].toNat : Nat) : Int) = byt s k) := fun k h => byt_get h
  have HBd := Lib.hid (byt_bd s)
  have HD0 := Lib.hid (dOf_pos (s := s))
  have HD1 := Lib.hid (dOf_neg (s := s))
  have HNO := Lib.hid (fun a => num_no (s := s) (a := a))
  have HEND := Lib.hid (fun a => num_end (s := s) (a := a))
  have HP0 := Lib.hid (pv_zero s)
  have HPS := Lib.hid (fun a k => pv_step (s := s) (a := a) (k := k))
  have HPB := Lib.hid (fun a k => pv_bd (s := s) (a := a) (k := k))
  have HDS : Hid (∀ a k, digs s a k → 48 ≤ byt s k → byt s k ≤ 57 → digs s a (k + 1)) := fun a k h h1 h2 => by
    unfold digs at h ⊢
    intro i hi hk
    by_cases e : i = k
    · rw [e]; exact ⟨h1, h2⟩
    · exact h i hi (by omega)
  have HDA : Hid (∀ a, digs s a a) := fun a => by unfold digs; intro i h1 h2; omega
  generalize s.data.toList.head? = hd at *
  generalize dOf s.data.toList = dd at *
  generalize numV s.data.toList = V at *
  generalize numB s.data.toList = B at *
  generalize pv s = P at *
  generalize digs s = DG at *
  rcases (show s.size < 1 ∨ 0 < s.size by omega) with h0 | h0
  · have hv := Lib.hid (HNO.out 0 (HD0.out (.inl h0)).1 (.inl (by omega)))
    have z0 : (s.size : Int) = 0 := by omega
    go_enter Tryd.func35, Tryd.ntmps35
    go_wp2
    go_ret2
    exact ⟨by rw [hv.out.1, hv.out.2]; rfl, rfl⟩
  · have g0 := HG.out 0 h0
    have b0 := HBd.out 0
    by_cases hm : byt s 0 = 45
    · have hd1 := Lib.hid (HD1.out h0 hm)
      rcases (show s.size ≤ 1 ∨ 1 < s.size by omega) with h1 | h1
      · have hv := Lib.hid (HNO.out 1 hd1.out.1 (.inl h1))
        have z0 : (s.size : Int) = 1 := by omega
        go_enter Tryd.func35, Tryd.ntmps35
        go_wp2
        go_ret2
        exact ⟨by rw [hv.out.1, hv.out.2]; rfl, rfl⟩
      · rcases (show 18 < s.size - 1 ∨ s.size - 1 ≤ 18 by omega) with h2 | h2
        · have hv := Lib.hid (HNO.out 1 hd1.out.1 (.inr (.inl h2)))
          have e1 : ((s.size : Int) == 1) = false := by simp; omega
          have d18 : decide (18 < (s.size : Int) - 1) = true := by simp; omega
          go_enter Tryd.func35, Tryd.ntmps35
          go_wp2
          go_ret2
          exact ⟨by rw [hv.out.1, hv.out.2]; rfl, rfl⟩
        · have g1 := HG.out 1 h1
          have b1 := HBd.out 1
          by_cases h3 : byt s 1 = 48
          · have hv := Lib.hid (HNO.out 1 hd1.out.1 (.inr (.inr (.inl ⟨h1, h3, h1⟩))))
            have e1 : ((s.size : Int) == 1) = false := by simp; omega
            have d18 : decide (18 < (s.size : Int) - 1) = false := by simp; omega
            have d1 : decide (1 < (s.size : Int)) = true := by simp; omega
            go_enter Tryd.func35, Tryd.ntmps35
            go_wp2
            go_ret2
            exact ⟨by rw [hv.out.1, hv.out.2]; rfl, rfl⟩
          · have e1 : ((s.size : Int) == 1) = false := by simp; omega
            have d18 : decide (18 < (s.size : Int) - 1) = false := by simp; omega
            have c1 : (byt s 1 == 48) = false := by simpa using h3
            go_enter Tryd.func35, Tryd.ntmps35
            go_wp2
            go_loop [5, 6] (fun n i => ∃ k : Nat, ∃ N : Int, 1 ≤ k ∧ k ≤ s.size ∧ i = .int .i64 k ∧ n = .int .i64 N ∧ N = P 1 k ∧ Hid (DG 1 k)) (fun n i => s.size - (intOf i).toNat)
            case atStart => exact ⟨1, 0, Nat.le_refl _, by omega, rfl, rfl, (HP0.out 1).symm, HDA.out 1⟩
            case round =>
              obtain ⟨k, N, hk1, hk, rfl, rfl, hN, hdg⟩ := hrel
              have hbN := HPB.out 1 k hk hdg.out (by omega)
              rw [← hN] at hbN
              obtain ⟨hN0, hN1⟩ := hbN
              by_cases hlt : k < s.size
              · have gk := HG.out k hlt
                have bk := HBd.out k
                have HDk := Lib.hid (fun w => s_l01Digit ((s[k].toNat : Nat) : Int) w (by omega))
                by_cases hc : 48 ≤ byt s k ∧ byt s k ≤ 57
                · have hf2 : digitC ((s[k].toNat : Nat) : Int) = true := by rw [gk]; simp [digitC]; omega
                  rw [hf2] at HDk
                  have hdg2 := Lib.hid (HDS.out 1 k hdg.out hc.1 hc.2)
                  have hst := HPS.out 1 k hk1 hlt hc.1
                  have hb2 := HPB.out 1 (k + 1) (by omega) hdg2.out (by omega)
                  rw [hst, ← hN] at hb2
                  rw [← hN] at hst
                  have HST := Lib.hid hst
                  have hc1 : 48 ≤ ((s[k].toNat : Nat) : Int) ∧ ((s[k].toNat : Nat) : Int) ≤ 57 := by omega
                  have hb3 : 10 * N + (((s[k].toNat : Nat) : Int) - 48) < 1000000000000000000 := by omega
                  have HGK := Lib.hid gk
                  clear hf2 gk bk hc hst hb2 hdg hN g0 g1 b0 b1
                  obtain ⟨hc1, hc2⟩ := hc1
                  go_wp2_with (go_at_call 53; refine (HDk.out _).mono ?_; rintro e w' ⟨rfl, rfl⟩)
                  go_round
                  case rel => exact ⟨k + 1, 10 * N + (((s[k].toNat : Nat) : Int) - 48), by omega, by omega, by go_num, by go_num, by rw [HST.out, HGK.out], hdg2⟩
                  case measure => simp [intOf]; omega
                · have hf2 : digitC ((s[k].toNat : Nat) : Int) = false := by rw [gk]; simp [digitC]; omega
                  rw [hf2] at HDk
                  have hv := Lib.hid (HNO.out 1 hd1.out.1 (.inr (.inr (.inr ⟨k, hk1, hlt, by omega⟩))))
                  clear hf2 gk bk hc hdg hN g0 g1 b0 b1
                  go_wp2_with (go_at_call 53; refine (HDk.out _).mono ?_; rintro e w' ⟨rfl, rfl⟩)
                  go_ret2
                  exact ⟨by rw [hv.out.1, hv.out.2]; rfl, rfl⟩
              · obtain rfl : k = s.size := by omega
                have hv := Lib.hid ((HEND.out 1 hd1.out.1 h1 h2 hdg.out (fun e => h3 e.1)).1 hd1.out.2)
                rw [← hN] at hv
                clear hN g0 g1 b0 b1
                go_wp2
                go_ret2
                exact ⟨by rw [hv.out.1, hv.out.2]; rfl, rfl⟩
    · have hd0 := Lib.hid (HD0.out (.inr ⟨h0, hm⟩))
      rcases (show 18 < s.size - 0 ∨ s.size - 0 ≤ 18 by omega) with h2 | h2
      · have hv := Lib.hid (HNO.out 0 hd0.out.1 (.inr (.inl h2)))
        have e0 : ((s.size : Int) == 0) = false := by rw [beq_eq_false_iff_ne]; omega
        have d18 : decide (18 < (s.size : Int)) = true := by simp; omega
        go_enter Tryd.func35, Tryd.ntmps35
        go_wp2
        go_ret2
        exact ⟨by rw [hv.out.1, hv.out.2]; rfl, rfl⟩
      · rcases (show (byt s 0 = 48 ∧ 1 < s.size) ∨ (byt s 0 = 48 ∧ s.size ≤ 1) ∨ byt s 0 ≠ 48 by omega) with ⟨h3, h4⟩ | h34
        · have hv := Lib.hid (HNO.out 0 hd0.out.1 (.inr (.inr (.inl ⟨h0, h3, h4⟩))))
          have e0 : ((s.size : Int) == 0) = false := by rw [beq_eq_false_iff_ne]; omega
          have d18 : decide (18 < (s.size : Int)) = false := by simp; omega
          have d1 : decide (1 < (s.size : Int)) = true := by simp; omega
          go_enter Tryd.func35, Tryd.ntmps35
          go_wp2
          go_ret2
          exact ⟨by rw [hv.out.1, hv.out.2]; rfl, rfl⟩
        · have hno : Hid (¬ (byt s 0 = 48 ∧ 1 < s.size)) := fun e => by omega
          have m0 : (byt s 0 == 45) = false := by simpa using hm
          have e0 : ((s.size : Int) == 0) = false := by rw [beq_eq_false_iff_ne]; omega
          have d18 : decide (18 < (s.size : Int)) = false := by simp; omega
          rcases h34 with ⟨h3, h4⟩ | h3
          all_goals
            have c0 : byt s 0 = 48 ∧ decide (1 < (s.size : Int)) = false ∨ (byt s 0 == 48) = false := by first | (exact .inl ⟨h3, by simp; omega⟩) | (exact .inr (by simpa using h3))
            try (have d1 : decide (1 < (s.size : Int)) = false := by simp; omega)
            try (have c1 : (byt s 0 == 48) = false := by simpa using h3)
            clear c0
            go_enter Tryd.func35, Tryd.ntmps35
            go_wp2
            go_loop [5, 6] (fun n i => ∃ k : Nat, ∃ N : Int, k ≤ s.size ∧ i = .int .i64 k ∧ n = .int .i64 N ∧ N = P 0 k ∧ Hid (DG 0 k)) (fun n i => s.size - (intOf i).toNat)
            case atStart => exact ⟨0, 0, by omega, rfl, rfl, (HP0.out 0).symm, HDA.out 0⟩
            case round =>
              obtain ⟨k, N, hk, rfl, rfl, hN, hdg⟩ := hrel
              have hbN := HPB.out 0 k hk hdg.out (by omega)
              rw [← hN] at hbN
              obtain ⟨hN0, hN1⟩ := hbN
              by_cases hlt : k < s.size
              · have gk := HG.out k hlt
                have bk := HBd.out k
                have HDk := Lib.hid (fun w => s_l01Digit ((s[k].toNat : Nat) : Int) w (by omega))
                by_cases hc : 48 ≤ byt s k ∧ byt s k ≤ 57
                · have hf2 : digitC ((s[k].toNat : Nat) : Int) = true := by rw [gk]; simp [digitC]; omega
                  rw [hf2] at HDk
                  have hdg2 := Lib.hid (HDS.out 0 k hdg.out hc.1 hc.2)
                  have hst := HPS.out 0 k (Nat.zero_le _) hlt hc.1
                  have hb2 := HPB.out 0 (k + 1) (by omega) hdg2.out (by omega)
                  rw [hst, ← hN] at hb2
                  rw [← hN] at hst
                  have HST := Lib.hid hst
                  have hc1 : 48 ≤ ((s[k].toNat : Nat) : Int) ∧ ((s[k].toNat : Nat) : Int) ≤ 57 := by omega
                  have hb3 : 10 * N + (((s[k].toNat : Nat) : Int) - 48) < 1000000000000000000 := by omega
                  have HGK := Lib.hid gk
                  clear hf2 gk bk hc hst hb2 hdg hN g0 b0
                  obtain ⟨hc1, hc2⟩ := hc1
                  go_wp2_with (go_at_call 53; refine (HDk.out _).mono ?_; rintro e w' ⟨rfl, rfl⟩)
                  go_round
                  case rel => exact ⟨k + 1, 10 * N + (((s[k].toNat : Nat) : Int) - 48), by omega, by go_num, by go_num, by rw [HST.out, HGK.out], hdg2⟩
                  case measure => simp [intOf]; omega
                · have hf2 : digitC ((s[k].toNat : Nat) : Int) = false := by rw [gk]; simp [digitC]; omega
                  rw [hf2] at HDk
                  have hv := Lib.hid (HNO.out 0 hd0.out.1 (.inr (.inr (.inr ⟨k, Nat.zero_le _, hlt, by omega⟩))))
                  clear hf2 gk bk hc hdg hN g0 b0
                  go_wp2_with (go_at_call 53; refine (HDk.out _).mono ?_; rintro e w' ⟨rfl, rfl⟩)
                  go_ret2
                  exact ⟨by rw [hv.out.1, hv.out.2]; rfl, rfl⟩
              · obtain rfl : k = s.size := by omega
                have hv := Lib.hid ((HEND.out 0 hd0.out.1 h0 h2 hdg.out hno.out).2 hd0.out.2)
                rw [← hN] at hv
                clear hN g0 b0
                go_wp2
                go_ret2
                exact ⟨by rw [hv.out.1, hv.out.2]; rfl, rfl⟩

end Go.Proofs.YtjgajablgddkcaaDoor
