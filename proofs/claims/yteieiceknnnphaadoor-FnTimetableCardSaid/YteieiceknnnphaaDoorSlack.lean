/- How much time is left before the rides. -/
import Derived.Test.YteieiceknnnphaaDoorNext
import Derived.Deep.DeepMust
import Derived.Deep.RegionHeld3
import Derived.Deep.AppendLies
import Derived.IntWalk
namespace Go.Proofs.YteieiceknnnphaaDoor
open Go.RowKit Go.Deep
set_option maxRecDepth 100000

/-- How many, and the code. -/
def slack (n : Nat) (lv tk : Nat → Int) (t : Int) : Nat × Int := if tAsk n lv tk (inB t 0 1440) = 0 then (n - 1, 0) else (0, tAsk n lv tk (inB t 0 1440))
def slackZ (lv tk : Nat → Int) (t : Int) : Nat → Int := fun i => lv (i + 1) - (lv i + tk i) - t
theorem slackZ_at (lv tk : Nat → Int) (t : Int) (k : Nat) (h : 0 < k) : Value.int .i64 (lv k - (lv (k - 1) + tk (k - 1)) - t) = ic (slackZ lv tk t) (k - 1) := by
  simp only [ic, slackZ]; rw [show k - 1 + 1 = k by omega]
theorem slack_cases (n : Nat) (lv tk : Nat → Int) (t : Int) :
    (∃ c, tAsk n lv tk (inB t 0 1440) = c ∧ (1 ≤ c ∧ c ≤ 2) ∧ Hid (slack n lv tk t = (0, c))) ∨
    (tAsk n lv tk (inB t 0 1440) = 0 ∧ n ≤ 24 ∧ (0 ≤ t ∧ t ≤ 1440) ∧ Hid (∀ i, i < n → 0 ≤ lv i ∧ lv i ≤ 1440 ∧ 1 ≤ tk i ∧ tk i ≤ 1440) ∧ Hid (slack n lv tk t = (n - 1, 0))) := by
  rcases tAsk_cases n lv tk (inB t 0 1440) with ⟨hv, hf⟩ | ⟨hv, hi, hf⟩ | ⟨hv, hi, hf⟩
  · exact .inl ⟨1, hf.out, by omega, by show slack _ _ _ _ = _; unfold slack; rw [hf.out]; rfl⟩
  · exact .inl ⟨2, hf.out, by omega, by show slack _ _ _ _ = _; unfold slack; rw [hf.out]; rfl⟩
  · obtain ⟨h1, h2, h3⟩ := vTable_rides hv
    exact .inr ⟨hf.out, h1, inB_out hi, fun i hi => by have := h2 i hi; omega, by show slack _ _ _ _ = _; unfold slack; rw [hf.out]; rfl⟩
attribute [irreducible] slack slackZ

def SlackPost (n : Nat) (lv tk : Nat → Int) (t : Int) (W : World) (en : Ending) (W' : World) : Prop :=
  ∃ v, en = .returned (.tuple #[v, .int .i64 (slack n lv tk t).2]) ∧ Below W.heap.size W W' ∧ Out W' W.heap.size 2 1 v (slack n lv tk t).1 (ic (slackZ lv tk t))

set_option maxHeartbeats 1000000 in
theorem i_SlackOf (v : Value) (n : Nat) (lv tk : Nat → Int) (t : Int) (W : World) (hs : Sl W v 2 n (rc lv tk)) : Calls Tryd.prog 7 #[v, .int .i64 t] W (SlackPost n lv tk t W) := by
  obtain ⟨i0, hi, hz0, hz1, hz2⟩ := info_parts infoInt
  have HA := Lib.hid (fun w => i_timetabled v n lv tk (inB t 0 1440) w)
  have HS := hs
  obtain ⟨hn, ao, cap, rfl, hr⟩ := hs
  rcases slack_cases n lv tk t with ⟨c, hc, hc1, HT⟩ | ⟨hc, h24, ht, HB, HT⟩
  · rw [hc] at HA
    clear hr
    go_enter Tryd.func7, Tryd.ntmps7
    go_wp2_with (first | (go_at_call 20; refine (i_isDayMinute _ _).mono ?_; rintro e w' ⟨rfl, rfl⟩) | (go_at_call 19; refine (HA.out _ HS).mono ?_; rintro e w1 ⟨rfl, hb1⟩))
    refine bodyPost_ret (results_tmp2 rfl _ _ _) rfl ⟨_, by rw [HT.out]; rfl, hb1, by rw [HT.out]; exact Out.nil _ _ _ _ _⟩
  · rw [hc] at HA
    go_enter Tryd.func7, Tryd.ntmps7
    go_wp2_with (first | (go_at_call 20; refine (i_isDayMinute _ _).mono ?_; rintro e w' ⟨rfl, rfl⟩) | (go_at_call 19; refine (HA.out _ HS).mono ?_; rintro e w1 ⟨rfl, hb1⟩))
    go_loopw [7, 8] (fun v i wr => ∃ (k : Nat) (u : Value), 1 ≤ k ∧ (k ≤ n ∨ k = 1) ∧ i = .int .i64 k ∧ u = v ∧ Below W.heap.size W wr ∧ Out wr W.heap.size 2 1 u (k - 1) (ic (slackZ lv tk t))) (fun _ i _ => n - (intOf i).toNat)
    case atStart => exact ⟨1, _, Nat.le_refl _, .inr rfl, rfl, rfl, hb1, Out.nil _ _ _ _ _⟩
    case round =>
      obtain ⟨k, u, hk1, hk, rfl, rfl, hb, hown⟩ := hrel
      by_cases hlt : k < n
      · rcases hr with h0 | ⟨g, off, rfl, hr⟩
        · omega
        obtain ⟨hs0, hs1⟩ := rcells (hr.kept hb) hlt
        obtain ⟨ht0, ht1⟩ := rcells (hr.kept hb) (k := k - 1) (by omega)
        have b0 := HB.out k hlt
        have b1 := HB.out (k - 1) (by omega)
        have hg := World.block_lt_of_cell? W _ (rcells hr hlt).1
        have hz := hb.size
        have hne : u.ownBlock ≠ some g := fun h => by have := (hown.base g h).1; simp at hg; omega
        have hk0 : 0 < k := hk1
        have hat := Lib.hid (slackZ_at lv tk t k hk0)
        clear hr hs1 hk
        have e1 : IntKind.i64.wrap ((k : Int) - 1) = (k : Int) - 1 := IntWalk.i64_in _ (by omega)
        have e2 : (0 : Int) ≤ (k : Int) - 1 := by omega
        have e3 : ((k : Int) - 1).toNat = k - 1 := by omega
        have e4 : IntKind.i64.wrap (lv k - (lv (k - 1) + tk (k - 1))) = lv k - (lv (k - 1) + tk (k - 1)) := IntWalk.i64_in _ (by omega)
        have e5 : IntKind.i64.wrap (lv k - (lv (k - 1) + tk (k - 1)) - t) = lv k - (lv (k - 1) + tk (k - 1)) - t := IntWalk.i64_in _ (by omega)
        have e6 : (k : Int) - 1 < n := by omega
        have e7 : (1 : Int) ≤ k := by omega
        have e8 : (k : Int) ≤ n := by omega
        have hends := Lib.hid (fun w => i_ends (lv (k - 1)) (tk (k - 1)) w (by omega))
        go_wp2
        go_region_held3 (fun w' => w'.cell? ⟨g, off + k * 2, none⟩ = some (.int .i64 (lv k)) ∧ w'.cell? ⟨g, off + (k - 1) * 2, none⟩ = some (.int .i64 (lv (k - 1))) ∧ w'.cell? ⟨g, off + (k - 1) * 2 + 1, none⟩ = some (.int .i64 (tk (k - 1))))
          (first
            | go_keep
            | (go_split_ands
               refine ⟨?_, ?_, ?_⟩
               · exact cell_kept hb2 (by assumption)
               · exact cell_kept hb2 (by assumption)
               · exact cell_kept hb2 (by assumption))
            | (go_split_ands
               refine ⟨?_, ?_, ?_⟩
               · (rw [hgrow.cell_far _ (by have h2 := hb2.size; simp at h2 hz hg ⊢; omega) (Ne.symm hne)]; assumption)
               · (rw [hgrow.cell_far _ (by have h2 := hb2.size; simp at h2 hz hg ⊢; omega) (Ne.symm hne)]; assumption)
               · (rw [hgrow.cell_far _ (by have h2 := hb2.size; simp at h2 hz hg ⊢; omega) (Ne.symm hne)]; assumption)))
          (first
            | (go_at_call 21; refine (hends.out _).mono ?_; rintro e w2 ⟨rfl, hb2⟩)
            | (refine step_append_lies _ (by rfl) _ _ _ (by rfl) W.heap.size 2 i0 _ 1 8 Tryd.underlying27 hi hz0 hz1 hz2 rfl (by omega) u (k - 1) _ (by rfl) ((Out.kept hown (kept_trans (by repeat (first | exact Below.refl _ _ | refine kept_drew ?_)) hb2)).alloc _)
                ⟨w2.heap.size, 0, none⟩ 1 1 [.int .i64 (lv k - (lv (k - 1) + tk (k - 1)) - t)] (by rfl) (by rfl) (World.news_of_block (cs := #[.int .i64 (lv k - (lv (k - 1) + tk (k - 1)) - t)]) (t := 2) (fr := (0, 0)) (heap_alloc_new w2 _)) (by simp [Value.oneCell'])
                (by omega) (by simp only [maxLen]; omega) (by omega) (by have := hb2.size; simp at this ⊢; omega) (w2.heap.size + 1) (by simp) ?_; intro gg cap2 w3 hown1 hgrow hat2 hlt2))
        have R1 : Hid (Out w3 W.heap.size 2 1 (.slice (some ⟨gg, 0, none⟩) (k - 1 + 1) cap2) (k - 1 + 1) (ic (slackZ lv tk t))) := Out.snoc1 hown1 hat.out
        have R2 : Hid (Below W.heap.size W w3) := (kept_alloc (kept_trans (kept_drew hb) hb2) _).grown hgrow (by have := hb2.size; simp at this ⊢; omega) (fun b hbk => (hown.base b hbk).1)
        rw [show k - 1 + 1 = k by omega] at R1
        clear e1 e2 e3 e4 e5 hown hown1 hgrow hat2
        go_wp2
        go_roundw
        case rel => exact ⟨k + 1, _, by omega, .inl (by omega), by go_num, rfl, R2.out, R1.out⟩
        case measure => simp [intOf]; omega
      · have hkn : k - 1 = n - 1 := by omega
        rw [hkn] at hown
        go_wp2
        refine bodyPost_ret (results_tmp2 rfl _ _ _) rfl ⟨_, by rw [HT.out]; rfl, hb, by rw [HT.out]; exact hown⟩

theorem slack_small (n : Nat) (lv tk : Nat → Int) (t : Int) (hn : n ≤ 17592186044416) : (slack n lv tk t).1 ≤ 17592186044416 := by
  unfold slack
  split <;> simp <;> omega

end Go.Proofs.YteieiceknnnphaaDoor
