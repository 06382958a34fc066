/- The first error of fares, of numbers and of names; what each ride costs, what groups pay. -/
import Derived.Test.YtjmklkhdemolmaaGreatDoorFind
import Derived.Test.YtjmklkhdemolmaaGreatDoorMrgB
namespace Go.Proofs.YtjmklkhdemolmaaGreatDoor
open Go.RowKit Go.Deep
set_option linter.unusedVariables false
set_option maxRecDepth 100000

theorem Sl.one_str {w : World} {s : ByteArray} {t : TypeId} : Sl (w.alloc (.cells #[.string s] t)) (.slice (some ⟨w.heap.size, 0, none⟩) 1 1) 1 1 (sc fun _ => s) :=
  Sl.of_row (by omega) (Row.of_rowIs (World.rowIs_alloc w #[.string s] t (sc fun _ => s) (fun i hi => by
    have hi' : i < 1 := by simpa using hi
    match i, hi' with
    | 0, _ => rfl)))
/-- The code: of fares first, then of numbers, then of m names. -/
def fcode (n : Nat) (a : Nat → ByteArray) (b c d : Nat → Int) (fine : Bool) (m : Nat) (t : Nat → ByteArray) : Int :=
  if vFares n a b c d then (if fine then (if allTo (fun i => decide (0 ≤ fidx n a (t i))) m then 0 else 3) else 2) else 1
theorem fcode_1 {n : Nat} {a : Nat → ByteArray} {b c d : Nat → Int} {fine : Bool} {m : Nat} {t : Nat → ByteArray} (h : vFares n a b c d = false) : fcode n a b c d fine m t = 1 := by unfold fcode; rw [h]; rfl
theorem fcode_2 {n : Nat} {a : Nat → ByteArray} {b c d : Nat → Int} {m : Nat} {t : Nat → ByteArray} (h : vFares n a b c d = true) : fcode n a b c d false m t = 2 := by unfold fcode; rw [h]; rfl
theorem fcode_3 {n : Nat} {a : Nat → ByteArray} {b c d : Nat → Int} {m : Nat} {t : Nat → ByteArray} (h : vFares n a b c d = true) {k : Nat} (hk : k < m) (hx : fidx n a (t k) = -1) : fcode n a b c d true m t = 3 := by
  unfold fcode; rw [h, allTo_no hk (by rw [hx]; rfl)]; rfl
theorem fcode_0 {n : Nat} {a : Nat → ByteArray} {b c d : Nat → Int} {m : Nat} {t : Nat → ByteArray} (h : vFares n a b c d = true) (hx : ∀ i, i < m → 0 ≤ fidx n a (t i)) : fcode n a b c d true m t = 0 := by
  unfold fcode; rw [h, allTo_yes (fun i hi => by simp [hx i hi])]; rfl
theorem fcode_cases (n : Nat) (a : Nat → ByteArray) (b c d : Nat → Int) (fine : Bool) (id : ByteArray) :
    (∃ x, fcode n a b c d fine 1 (fun _ => id) = x ∧ (x = 1 ∨ x = 2 ∨ x = 3)) ∨
    (fcode n a b c d fine 1 (fun _ => id) = 0 ∧ fine = true ∧ n ≤ 8 ∧ ∃ k, k < n ∧ fidx n a id = (k : Nat) ∧ (0 ≤ b k ∧ b k ≤ 100000) ∧ (1 ≤ c k ∧ c k ≤ 1000) ∧ (1 ≤ d k ∧ d k ≤ 400)) := by
  cases hv : vFares n a b c d
  · exact .inl ⟨1, fcode_1 hv, .inl rfl⟩
  · cases fine
    · exact .inl ⟨2, fcode_2 hv, .inr (.inl rfl)⟩
    · rcases fidx_cases n a id with h | ⟨k, hk, h⟩
      · exact .inl ⟨3, fcode_3 hv (k := 0) (by omega) h, .inr (.inr rfl)⟩
      · have ho := vFares_out hv
        have h1 := vFa_out (ho.2 k hk)
        exact .inr ⟨fcode_0 hv (fun i hi => by rw [h]; omega), rfl, ho.1, k, hk, h, h1.2.1, h1.2.2.1, h1.2.2.2⟩
attribute [irreducible] fcode

theorem i_fareOf_no {n : Nat} {a : Nat → ByteArray} {b c d : Nat → Int} {id : ByteArray} (h : fidx n a id = -1) (v : Value) (w : World) (hs : Sl w v 4 n (gc a b c d)) : Calls Tryz.prog 24 #[v, .string id] w fun e W' => e = .returned (.tuple #[.agg #[.string ⟨#[]⟩, .int .i64 0, .int .i64 0, .int .i64 0], .bool false]) ∧ Below w.heap.size w W' :=
  (i_fareOf v n a b c d id w hs).mono fun _ _ ⟨h1, h2, h3⟩ => ⟨h1 h, h3⟩
theorem i_fareOf_yes {n : Nat} {a : Nat → ByteArray} {b c d : Nat → Int} {id : ByteArray} {k : Nat} (h : fidx n a id = k) (v : Value) (w : World) (hs : Sl w v 4 n (gc a b c d)) : Calls Tryz.prog 24 #[v, .string id] w fun e W' => e = .returned (.tuple #[.agg #[.string (a k), .int .i64 (b k), .int .i64 (c k), .int .i64 (d k)], .bool true]) ∧ Below w.heap.size w W' :=
  (i_fareOf v n a b c d id w hs).mono fun _ _ ⟨h1, h2, h3⟩ => ⟨h2 k h, h3⟩

set_option maxHeartbeats 800000 in
theorem i_fared (v : Value) (n : Nat) (a : Nat → ByteArray) (b c d : Nat → Int) (fine : Bool) (v2 : Value) (m : Nat) (t : Nat → ByteArray) (W : World) (hs : Sl W v 4 n (gc a b c d)) (hx : Hid (∀ i, i < n → ((a i).size : Int) ≤ 1048576)) (hs2 : Sl W v2 1 m (sc t)) :
    Calls Tryz.prog 17 #[v, .bool fine, v2] W fun e W' => e = .returned (.int .i64 (fcode n a b c d fine m t)) ∧ Below W.heap.size W W' := by
  have HL := Lib.hid (i_listFare v n a b c d W hs hx)
  have HS := hs
  have HNo := Lib.hid (fun id (h : fidx n a id = -1) w hs => i_fareOf_no (b := b) (c := c) (d := d) h v w hs)
  have HYs := Lib.hid (fun id k (h : fidx n a id = (k : Nat)) w hs => i_fareOf_yes (b := b) (c := c) (d := d) h v w hs)
  obtain ⟨hn, ao, cap, rfl, hr⟩ := hs
  clear hr
  obtain ⟨hm, ao2, cap2, rfl, hr2⟩ := hs2
  cases hv : vFares n a b c d
  · have hf := Lib.hid (fcode_1 (fine := fine) (m := m) (t := t) hv)
    rw [hv] at HL
    clear hr2
    go_enter Tryz.func17, Tryz.ntmps17
    go_wp2_with (go_at_call 36; refine HL.out.mono ?_; rintro e w1 ⟨rfl, hb1⟩)
    go_ret
    exact ⟨by rw [hf.out]; rfl, hb1⟩
  · rw [hv] at HL
    cases fine
    · have hf := Lib.hid (fcode_2 (m := m) (t := t) hv)
      clear hr2
      go_enter Tryz.func17, Tryz.ntmps17
      go_wp2_with (go_at_call 36; refine HL.out.mono ?_; rintro e w1 ⟨rfl, hb1⟩)
      go_ret
      exact ⟨by rw [hf.out]; rfl, hb1⟩
    · have H3 := Lib.hid (fun k => fcode_3 (m := m) (t := t) hv (k := k))
      have H0 := Lib.hid (fcode_0 (m := m) (t := t) hv)
      have HC := Lib.hid (fun id => fidx_cases n a id)
      clear hv
      generalize fcode n a b c d true m t = R at *
      rcases hr2 with h0 | ⟨g, off, rfl, hr2⟩
      · have hR := Lib.hid (H0.out (fun i hi => by omega))
        obtain rfl : m = 0 := h0
        have h0' : (0 : Nat) ≤ 0 := Nat.le_refl _
        go_enter Tryz.func17, Tryz.ntmps17
        go_wp2_with (go_at_call 36; refine HL.out.mono ?_; rintro e w1 ⟨rfl, hb1⟩)
        go_wp2
        refine wp_loop_rounds 1 ?_
        rw [rounds_succ]
        go_wp2
        go_ret
        exact ⟨by rw [hR.out]; rfl, hb1⟩
      · go_enter Tryz.func17, Tryz.ntmps17
        go_wp2_with (go_at_call 36; refine HL.out.mono ?_; rintro e w1 ⟨rfl, hb1⟩)
        go_loopw [20] (fun i wr => ∃ j : Nat, j ≤ m ∧ i = .int .i64 j ∧ Below W.heap.size W wr ∧ Hid (∀ i, i < j → 0 ≤ fidx n a (t i))) (fun i _ => m - (intOf i).toNat)
        case atStart => exact ⟨0, Nat.zero_le _, rfl, hb1, fun i hi => absurd hi (by omega)⟩
        case round =>
          obtain ⟨j, hj, rfl, hb, hno⟩ := hrel
          by_cases hlt : j < m
          · have hs0 := (hr2.kept hb).cell (i := j) (by omega)
            simp only [sc] at hs0
            clear hr2 hb1
            rcases HC.out (t j) with h | ⟨k, hk, h⟩
            · have hR := Lib.hid (H3.out j hlt h)
              have hcall := Lib.hid (HNo.out (t j) h wr (HS.kept hb))
              clear h
              go_wp2_with (go_at_call 24; refine hcall.out.mono ?_; rintro e w2 ⟨rfl, hb2⟩)
              go_ret
              exact ⟨by rw [hR.out]; rfl, kept_alloc (kept_trans hb hb2) _⟩
            · have hcall := Lib.hid (HYs.out (t j) k h wr (HS.kept hb))
              have HN : Hid (∀ i, i < j + 1 → 0 ≤ fidx n a (t i)) := fun i hi => by
                by_cases e : i = j
                · rw [e, h]; omega
                · exact hno.out i (by omega)
              clear h
              go_wp2_with (go_at_call 24; refine hcall.out.mono ?_; rintro e w2 ⟨rfl, hb2⟩)
              go_roundw
              case rel => exact ⟨j + 1, by omega, by go_num, kept_alloc (kept_trans hb hb2) _, HN⟩
              case measure => simp [intOf]; omega
          · have hR := Lib.hid (H0.out (fun i hi => hno.out i (by omega)))
            go_wp2
            go_ret
            exact ⟨by rw [hR.out]; rfl, hb⟩

theorem i_fared1 (v : Value) (n : Nat) (a : Nat → ByteArray) (b c d : Nat → Int) (fine : Bool) (id : ByteArray) (w : World) (hs : Sl w v 4 n (gc a b c d)) (hx : Hid (∀ i, i < n → ((a i).size : Int) ≤ 1048576)) :
    Calls Tryz.prog 17 #[v, .bool fine, .slice (some ⟨w.heap.size, 0, none⟩) 1 1] (w.alloc (.cells #[.string id] 9)) fun e W' => e = .returned (.int .i64 (fcode n a b c d fine 1 (fun _ => id))) ∧ Below (w.alloc (.cells #[.string id] 9)).heap.size (w.alloc (.cells #[.string id] 9)) W' :=
  i_fared v n a b c d fine _ 1 (fun _ => id) _ (hs.kept (kept_alloc (Below.refl _ _) _)) hx Sl.one_str

/-- Asked of one fare by its name: f of its numbers, 0 otherwise. -/
def ofFare (n : Nat) (a : Nat → ByteArray) (b c d : Nat → Int) (fine : Bool) (id : ByteArray) (f : Int → Int → Int → Int × Int) : Int × Int :=
  if fcode n a b c d fine 1 (fun _ => id) = 0 then f (b (fidx n a id).toNat) (c (fidx n a id).toNat) (d (fidx n a id).toNat) else (0, fcode n a b c d fine 1 (fun _ => id))
theorem ofFare_no {n : Nat} {a : Nat → ByteArray} {b c d : Nat → Int} {fine : Bool} {id : ByteArray} {f : Int → Int → Int → Int × Int} {x : Int} (h : fcode n a b c d fine 1 (fun _ => id) = x) (hx : x = 1 ∨ x = 2 ∨ x = 3) : ofFare n a b c d fine id f = (0, x) := by
  unfold ofFare; rw [h, if_neg (by omega)]
theorem ofFare_yes {n : Nat} {a : Nat → ByteArray} {b c d : Nat → Int} {fine : Bool} {id : ByteArray} {f : Int → Int → Int → Int × Int} {k : Nat} (h : fcode n a b c d fine 1 (fun _ => id) = 0) (hk : fidx n a id = k) : ofFare n a b c d fine id f = f (b k) (c k) (d k) := by
  unfold ofFare; rw [if_pos h, hk, Int.toNat_natCast]
attribute [irreducible] ofFare

end Go.Proofs.YtjmklkhdemolmaaGreatDoor
