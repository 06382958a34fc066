/- The rides that leave at some minutes. -/
import Derived.Test.YteieiceknnnphaaDoorSlack
import Derived.Test.YteieiceknnnphaaDoorPicks
namespace Go.Proofs.YteieiceknnnphaaDoor
open Go.RowKit Go.Deep
set_option maxRecDepth 100000

def between (n : Nat) (lv tk : Nat → Int) (f u : Int) : List Int × Int := if tAsk n lv tk (vSpan f u) = 0 then (picks (fun k => inB (lv k) f u) n, 0) else ([], tAsk n lv tk (vSpan f u))
theorem between_cases (n : Nat) (lv tk : Nat → Int) (f u : Int) :
    (∃ c, tAsk n lv tk (vSpan f u) = c ∧ (1 ≤ c ∧ c ≤ 2) ∧ Hid (between n lv tk f u = ([], c))) ∨
    (tAsk n lv tk (vSpan f u) = 0 ∧ n ≤ 24 ∧ Hid (between n lv tk f u = (picks (fun k => inB (lv k) f u) n, 0))) := by
  rcases tAsk_cases n lv tk (vSpan f u) with ⟨hv, hf⟩ | ⟨hv, hi, hf⟩ | ⟨hv, hi, hf⟩
  · exact .inl ⟨1, hf.out, by omega, by show between _ _ _ _ _ = _; unfold between; rw [hf.out]; rfl⟩
  · exact .inl ⟨2, hf.out, by omega, by show between _ _ _ _ _ = _; unfold between; rw [hf.out]; rfl⟩
  · exact .inr ⟨hf.out, (vTable_out hv).1, by show between _ _ _ _ _ = _; unfold between; rw [hf.out]; rfl⟩
theorem between_cases2 (n : Nat) (lv tk : Nat → Int) (f u : Int) :
    (∃ c, tAsk n lv tk (inB f 0 1440) = c ∧ (1 ≤ c ∧ c ≤ 2) ∧ Hid (between n lv tk f u = ([], c))) ∨
    (tAsk n lv tk (inB f 0 1440) = 0 ∧ inB u f 1440 = false ∧ Hid (between n lv tk f u = ([], 2))) ∨
    (tAsk n lv tk (inB f 0 1440) = 0 ∧ inB u f 1440 = true ∧ n ≤ 24 ∧ Hid (between n lv tk f u = (picks (fun k => inB (lv k) f u) n, 0))) := by
  have ha := vSpan_alt f u
  rcases tAsk_cases n lv tk (vSpan f u) with ⟨hv, hf⟩ | ⟨hv, hi, hf⟩ | ⟨hv, hi, hf⟩
  · refine .inl ⟨1, ?_, by omega, by show between _ _ _ _ _ = _; unfold between; rw [hf.out]; rfl⟩
    unfold tAsk; rw [hv]; rfl
  · have hb : between n lv tk f u = ([], 2) := by unfold between; rw [hf.out]; rfl
    cases h1 : inB f 0 1440
    · exact .inl ⟨2, by unfold tAsk; rw [hv]; rfl, by omega, hb⟩
    · rw [hi, h1] at ha
      exact .inr (.inl ⟨by unfold tAsk; rw [hv]; rfl, by simpa using ha.symm, hb⟩)
  · rw [hi] at ha
    have ha := ha.symm
    rw [Bool.and_eq_true] at ha
    exact .inr (.inr ⟨by unfold tAsk; rw [hv, ha.1]; rfl, ha.2, (vTable_out hv).1, by show between _ _ _ _ _ = _; unfold between; rw [hf.out]; rfl⟩)
attribute [irreducible] between

def BetweenPost (n : Nat) (lv tk : Nat → Int) (f u : Int) (W : World) (en : Ending) (W' : World) : Prop :=
  ∃ v, en = .returned (.tuple #[v, .int .i64 (between n lv tk f u).2]) ∧ Below W.heap.size W W' ∧ Out W' W.heap.size 2 1 v (between n lv tk f u).1.length (ic (lz (between n lv tk f u).1))

set_option maxHeartbeats 1000000 in
theorem i_RidesBetween (v : Value) (n : Nat) (lv tk : Nat → Int) (f u : Int) (W : World) (hs : Sl W v 2 n (rc lv tk)) : Calls Tryd.prog 11 #[v, .int .i64 f, .int .i64 u] W (BetweenPost n lv tk f u W) := by
  obtain ⟨i0, hi, hz0, hz1, hz2⟩ := info_parts infoInt
  have HA := Lib.hid (fun w => i_timetabled v n lv tk (vSpan f u) w)
  have HS := hs
  obtain ⟨hn, ao, cap, rfl, hr⟩ := hs
  rcases between_cases n lv tk f u with ⟨c, hc, hc1, HT⟩ | ⟨hc, h24, HT⟩
  · rw [hc] at HA
    clear hr
    go_enter Tryd.func11, Tryd.ntmps11
    go_wp2_with (first | (go_at_call 26; refine (i_isSpan _ _ _).mono ?_; rintro e w' ⟨rfl, rfl⟩) | (go_at_call 19; refine (HA.out _ HS).mono ?_; rintro e w1 ⟨rfl, hb1⟩))
    refine bodyPost_ret (results_tmp2 rfl _ _ _) rfl ⟨_, by rw [HT.out]; rfl, hb1, by rw [HT.out]; exact Out.nil _ _ _ _ _⟩
  · rw [hc] at HA
    go_enter Tryd.func11, Tryd.ntmps11
    go_wp2_with (first | (go_at_call 26; refine (i_isSpan _ _ _).mono ?_; rintro e w' ⟨rfl, rfl⟩) | (go_at_call 19; refine (HA.out _ HS).mono ?_; rintro e w1 ⟨rfl, hb1⟩))
    go_loopw [9, 22] (fun v i wr => ∃ (k : Nat) (x : Value) (L : List Int), k ≤ n ∧ i = .int .i64 k ∧ x = v ∧ Below W.heap.size W wr ∧ L.length ≤ k ∧ Hid (picks (fun k => inB (lv k) f u) k = L) ∧ Out wr W.heap.size 2 1 x L.length (ic (lz L))) (fun _ i _ => n - (intOf i).toNat)
    case atStart => exact ⟨0, _, [], Nat.zero_le _, rfl, rfl, hb1, Nat.le_refl _, picks_zero _, Out.nil _ _ _ _ _⟩
    case round =>
      obtain ⟨k, x, L, hk, rfl, rfl, hb, hL, HL, hown⟩ := hrel
      by_cases hlt : k < n
      · rcases hr with h0 | ⟨g, off, rfl, hr⟩
        · omega
        obtain ⟨hs0, hs1⟩ := rcells (hr.kept hb) hlt
        clear hr
        cases hp : inB (lv k) f u
        · have HN : Hid (picks (fun k => inB (lv k) f u) (k + 1) = L) := by show picks _ _ = _; rw [picks_no hp, HL.out]
          go_wp2_with (first | (go_at_call 27; refine (i_within _ _ _ _).mono ?_; rintro e w' ⟨rfl, rfl⟩))
          go_roundw
          case rel => exact ⟨k + 1, _, L, by omega, by go_num, rfl, (by repeat (first | assumption | exact Below.refl _ _ | refine kept_drew ?_ | refine kept_drewN ?_ _ | refine kept_alloc ?_ _ | refine kept_set ?_ ?_ _ | (simp; done) | (simp; omega) | refine kept_trans ?_ (by assumption))), by omega, HN, hown.kept (kept_alloc (Below.refl _ _) _)⟩
          case measure => simp [intOf]; omega
        · have HN : Hid (picks (fun k => inB (lv k) f u) (k + 1) = L ++ [(k : Int)]) := by show picks _ _ = _; rw [picks_yes hp, HL.out]
          have hownA := hown.kept (kept_alloc (Below.refl _ _) (.cells #[.int .i64 (lv k), .int .i64 (tk k)] 32))
          have hbA : Below W.heap.size W (wr.alloc (.cells #[.int .i64 (lv k), .int .i64 (tk k)] 32)) := kept_alloc hb _
          have hlaid : ∀ j u, [Value.int .i64 k][j]? = some u → ((wr.alloc (.cells #[.int .i64 (lv k), .int .i64 (tk k)] 32)).alloc (.cells #[.int .i64 k] 2)).cell? ((⟨wr.heap.size + 1, 0, none⟩ : Addr).add j) = some u := by
            have h := laid_new (w := wr.alloc (.cells #[.int .i64 (lv k), .int .i64 (tk k)] 32)) (cs := [.int .i64 k]) (t := 2)
            rw [show (wr.alloc (.cells #[.int .i64 (lv k), .int .i64 (tk k)] 32)).heap.size = wr.heap.size + 1 by simp] at h
            exact h
          clear hown
          go_wp2_with (first | (go_at_call 27; refine (i_within _ _ _ _).mono ?_; rintro e w' ⟨rfl, rfl⟩) | (at_builtin; refine wpList_append_own _ rfl _ _ 27 rfl _ 2 i0 _ 1 8 Tryd.underlying27 hi hz0 hz1 hz2 rfl (by decide) _ _ _ rfl (hownA.row.alloc _) ⟨wr.heap.size + 1, 0, none⟩ 1 1 [.int .i64 k] rfl rfl hlaid (by intro u hu; simp at hu; subst hu; rfl) (by simp only [maxLen]; omega) (by omega) (by have hbs := hbA.size; simp at hbs ⊢; omega) ?_; intro v1 w1 hown1 hgrow1 _))
          have R1 := Out.snocL hown1
          have R2 := below_of_append hbA hownA.row hgrow1
          clear hownA hown1 hgrow1 hb hbA
          go_wp2
          go_roundw
          case rel => exact ⟨k + 1, _, L ++ [(k : Int)], by omega, by go_num, rfl, R2, by simp; omega, HN, R1⟩
          case measure => simp [intOf]; omega
      · obtain rfl : k = n := by omega
        have HE : Hid (between k lv tk f u = (L, 0)) := by have := HT.out; rw [HL.out] at this; exact this
        go_wp2
        refine bodyPost_ret (results_tmp2 rfl _ _ _) rfl ⟨_, by rw [HE.out]; rfl, hb, by rw [HE.out]; exact hown⟩


end Go.Proofs.YteieiceknnnphaaDoor
