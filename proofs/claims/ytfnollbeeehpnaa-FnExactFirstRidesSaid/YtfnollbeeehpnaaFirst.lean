/- The rides of groups, one after the other: the meaning, and the reference. -/
import Derived.Test.YtfnollbeeehpnaaLarge
import Derived.Maps.AppendAt
namespace Go.Proofs.Ytfnollbeeehpnaa
open Go.RowKit Go.Deep
set_option linter.unusedVariables false
set_option maxRecDepth 100000

/-- Behind k groups: the ride, and its first group. -/
def frS (ft : Nat → Nat → Bool) : Nat → Int × Nat
  | 0 => (0, 0)
  | k + 1 => if ft (frS ft k).2 k = true then frS ft k else ((frS ft k).1 + 1, k)
theorem frS_zero (ft : Nat → Nat → Bool) : frS ft 0 = (0, 0) := rfl
theorem frS_yes {ft : Nat → Nat → Bool} {k s : Nat} {x : Int} (h : frS ft k = (x, s)) (hf : ft s k = true) : frS ft (k + 1) = (x, s) := by
  simp only [frS, h]; rw [if_pos hf]
theorem frS_no {ft : Nat → Nat → Bool} {k s : Nat} {x : Int} (h : frS ft k = (x, s)) (hf : ft s k = false) : frS ft (k + 1) = (x + 1, k) := by
  simp only [frS, h]; rw [if_neg (by rw [hf]; simp)]
def frR (ft : Nat → Nat → Bool) (i : Nat) : Int := (frS ft (i + 1)).1
theorem frR_of {ft : Nat → Nat → Bool} {k s : Nat} {x : Int} (h : frS ft (k + 1) = (x, s)) : frR ft k = x := by unfold frR; rw [h]
attribute [irreducible] frS frR
/-- Groups s to k fit together. -/
def ftB (b c d : Nat → Int) (p q r : Int) (s k : Nat) : Bool := fitB (sumI b (k + 1) - sumI b s) (sumI c (k + 1) - sumI c s) (sumI (kgOf b c d) (k + 1) - sumI (kgOf b c d) s) p q r
theorem sumI_from (f : Nat → Int) (s : Nat) : ∀ m, sumI (at' f (fun i => ((s + i : Nat) : Int))) m = sumI f (s + m) - sumI f s
  | 0 => by simp [sumI]
  | m + 1 => by
    have e : at' f (fun i => ((s + i : Nat) : Int)) m = f (s + m) := by
      show f (((s + m : Nat) : Int)).toNat = f (s + m)
      rw [Int.toNat_natCast]
    show sumI (at' f (fun i => ((s + i : Nat) : Int))) m + at' f (fun i => ((s + i : Nat) : Int)) m = (sumI f (s + m) + f (s + m)) - sumI f s
    rw [sumI_from f s m, e]; omega
theorem fitAll_from (b c d : Nat → Int) (p q r : Int) (s m k : Nat) (h : s + m = k) : fitAll b c d (fun i => ((s + i : Nat) : Int)) (m + 1) p q r = ftB b c d p q r s k := by
  rw [fitAll_eq, sumI_from, sumI_from, sumI_from, ← Nat.add_assoc, h]; rfl
theorem ftB_eq {b c d : Nat → Int} {p q r : Int} {s k : Nat} {P B K : Int} (hP : P = sumI b k - sumI b s) (hB : B = sumI c k - sumI c s) (hK : K = sumI (kgOf b c d) k - sumI (kgOf b c d) s) : fitB (P + b k) (B + c k) (K + (75 * b k + 15 * c k + d k)) p q r = ftB b c d p q r s k := by
  have e1 : P + b k = sumI b (k + 1) - sumI b s := by show _ = sumI b k + b k - sumI b s; omega
  have e2 : B + c k = sumI c (k + 1) - sumI c s := by show _ = sumI c k + c k - sumI c s; omega
  have e3 : K + (75 * b k + 15 * c k + d k) = sumI (kgOf b c d) (k + 1) - sumI (kgOf b c d) s := by show _ = sumI (kgOf b c d) k + (75 * b k + 15 * c k + d k) - sumI (kgOf b c d) s; omega
  rw [e1, e2, e3]; rfl
attribute [irreducible] ftB

/-- The code, and the number of rides told. -/
def frC (n : Nat) (a : Nat → ByteArray) (b c d : Nat → Int) (p q r : Int) : Int := if gAsk n a b c d p q r = 0 then (if allTo (aloneB b c d p q r) n = true then 0 else 3) else 1
def frM (n : Nat) (a : Nat → ByteArray) (b c d : Nat → Int) (p q r : Int) : Nat := if frC n a b c d p q r = 0 then n else 0
theorem frC_cases (n : Nat) (a : Nat → ByteArray) (b c d : Nat → Int) (p q r : Int) : (gAsk n a b c d p q r = 1 ∧ Hid (frC n a b c d p q r = 1 ∧ frM n a b c d p q r = 0)) ∨ (gAsk n a b c d p q r = 0 ∧ allTo (aloneB b c d p q r) n = false ∧ Hid (frC n a b c d p q r = 3 ∧ frM n a b c d p q r = 0)) ∨ (gAsk n a b c d p q r = 0 ∧ allTo (aloneB b c d p q r) n = true ∧ Hid (frC n a b c d p q r = 0 ∧ frM n a b c d p q r = n)) := by
  have k1 : frC n a b c d p q r = if gAsk n a b c d p q r = 0 then (if allTo (aloneB b c d p q r) n = true then 0 else 3) else 1 := rfl
  have k2 : frM n a b c d p q r = if frC n a b c d p q r = 0 then n else 0 := rfl
  rcases gAsk_two n a b c d p q r with h | h
  · refine .inl ⟨h, ?_⟩
    have k3 : frC n a b c d p q r = 1 := by rw [k1, if_neg (by rw [h]; simp)]
    exact ⟨k3, by rw [k2, if_neg (by rw [k3]; simp)]⟩
  · cases h2 : allTo (aloneB b c d p q r) n
    · have k3 : frC n a b c d p q r = 3 := by rw [k1, if_pos h, if_neg (by rw [h2]; simp)]
      exact .inr (.inl ⟨h, rfl, k3, by rw [k2, if_neg (by rw [k3]; simp)]⟩)
    · have k3 : frC n a b c d p q r = 0 := by rw [k1, if_pos h, if_pos h2]
      exact .inr (.inr ⟨h, rfl, k3, by rw [k2, if_pos k3]⟩)
theorem frM_le (n : Nat) (a : Nat → ByteArray) (b c d : Nat → Int) (p q r : Int) (hn : n ≤ 17592186044416) : frM n a b c d p q r ≤ 17592186044416 := by
  unfold frM; split <;> omega
attribute [irreducible] frC frM
def FirstPost (n : Nat) (a : Nat → ByteArray) (b c d : Nat → Int) (p q r : Int) (W : World) (e : Ending) (W' : World) : Prop :=
  ∃ g, e = .returned (.tuple #[g, .int .i64 (frC n a b c d p q r)]) ∧ Below W.heap.size W W' ∧ Out W' W.heap.size 2 1 g (frM n a b c d p q r) (ic (frR (ftB b c d p q r)))

theorem s_l17Alone (v : Value) (n : Nat) (a : Nat → ByteArray) (b c d : Nat → Int) (p q r : Int) (g0 : Nat) (W : World) (hs : Sl W v 4 n (gc a b c d)) (HB : Hid (∀ i, i < n → (1 ≤ b i ∧ b i ≤ 200) ∧ (0 ≤ c i ∧ c i ≤ 40) ∧ (0 ≤ d i ∧ d i ≤ 100000)))
    (c0 : W.cell? ⟨g0, 0, none⟩ = some (.int .i64 p)) (c1 : W.cell? ⟨g0, 1, none⟩ = some (.int .i64 q)) (c2 : W.cell? ⟨g0, 2, none⟩ = some (.int .i64 r)) :
    Calls Try.prog 77 #[v, .pointer (some ⟨g0, 0, none⟩)] W fun e W' => e = .returned (.bool (allTo (aloneB b c d p q r) n)) ∧ Below W.heap.size W W' := by
  have HSA := hs
  obtain ⟨hn, ao, cap, rfl, hr⟩ := hs
  clear hr
  have HFT := Lib.hid (fun (k : Nat) (hk : k < n) w u h1 h2 c0 c1 c2 => s_l17Fits (.slice ao n cap) u n 1 a b c d (fun _ => (k : Int)) p q r g0 w h1 h2 (by omega) (fun i hi => ⟨by omega, by show (k : Int) < n; omega⟩) HB c0 c1 c2)
  have FO := Lib.hid (fitAll_one b c d p q r)
  have HNo := Lib.hid (fun (k : Nat) (hk : k < n) h => allTo_no (p := aloneB b c d p q r) hk h)
  have HYes := Lib.hid (fun h => allTo_yes (p := aloneB b c d p q r) (n := n) h)
  generalize aloneB b c d p q r = al at *
  generalize allTo al n = A at *
  go_enter Try.func77, Try.ntmps77
  go_wp2
  go_loopw [5] (fun i wr => ∃ k : Nat, k ≤ n ∧ i = .int .i64 k ∧ Below W.heap.size W wr ∧ Hid (∀ i, i < k → al i = true)) (fun i _ => n - (intOf i).toNat)
  case atStart => exact ⟨0, by omega, rfl, (by repeat (first | assumption | exact Below.refl _ _ | refine kept_drew ?_ | refine kept_drewN ?_ _ | refine kept_alloc ?_ _ | refine kept_set ?_ ?_ _ | (simp; done) | (simp; omega) | refine kept_trans ?_ (by assumption))), fun i hi => by omega⟩
  case round =>
    obtain ⟨k, hk, rfl, hb, hno⟩ := hrel
    by_cases hlt : k < n
    · have K1 := kept_trans hb (kept_alloc (Below.refl wr.heap.size wr) (.cells #[.int .i64 k] 2))
      have HF := Lib.hid (HFT.out k hlt _ _ (HSA.kept K1) Sl.one_int (cell_keep K1 c0) (cell_keep K1 c1) (cell_keep K1 c2))
      rw [FO.out] at HF
      cases hal : al k
      · rw [hal] at HF
        have HX := Lib.hid (HNo.out k hlt hal)
        clear hal
        go_wp2_with (go_at_call 69; refine HF.out.mono ?_; rintro e x1 ⟨rfl, hbx1⟩)
        go_ret
        exact ⟨by rw [HX.out]; rfl, kept_trans K1 hbx1⟩
      · rw [hal] at HF
        have HN : Hid (∀ i, i < k + 1 → al i = true) := fun i hi => by
          by_cases e : i = k
          · rw [e]; exact hal
          · exact hno.out i (by omega)
        clear hal
        go_wp2_with (go_at_call 69; refine HF.out.mono ?_; rintro e x1 ⟨rfl, hbx1⟩)
        go_roundw
        case rel => exact ⟨k + 1, by omega, by go_num, kept_trans K1 hbx1, HN⟩
        case measure => simp [intOf]; omega
    · obtain rfl : k = n := by omega
      have HX := Lib.hid (HYes.out hno.out)
      go_wp2
      go_ret
      exact ⟨by rw [HX.out]; rfl, hb⟩

theorem s_l00Own (g cap n : Nat) (z : Nat → Int) (W : World) (hr : Row W g 0 n (ic z)) (hn : n ≤ 1048576) :
    Calls Try.prog 78 #[.slice (some ⟨g, 0, none⟩) n cap] W fun e W' => ∃ u, e = .returned u ∧ Below W.heap.size W W' ∧ Out W' W.heap.size 2 1 u n (ic z) := by
  obtain ⟨i0, hi, hz0, hz1, hz2⟩ := info_parts infoInt
  have KA := kept_alloc (Below.refl W.heap.size W) (.cells #[] 2)
  have OE : Out (W.alloc (.cells #[] 2)) W.heap.size 2 1 (.slice (some ⟨W.heap.size, 0, none⟩) 0 0) 0 (ic z) := Out.empty _ _ _ _ _ (Nat.le_refl _)
  have HNW : ∀ j u, (cellsN (ic z) n)[j]? = some u → (W.alloc (.cells #[] 2)).cell? ((⟨g, 0, none⟩ : Addr).add j) = some u := fun j u hj => by
    have hjn : j < n := by
      have := (List.getElem?_eq_some_iff.1 hj).1
      simpa [cellsN] using this
    have h1 := (hr.kept KA).cell hjn
    have h2 : (cellsN (ic z) n)[j]? = some (ic z j) := by simp [cellsN, List.getElem?_range hjn]
    rw [h2] at hj
    rw [← hj, ← h1]
    by_cases h0 : j = 0
    · simp [Addr.add, h0]
    · simp [Addr.add, h0]
  have HN1 : ∀ u ∈ cellsN (ic z) n, u.oneCell' = true := fun u hu => by
    simp only [cellsN, List.mem_map] at hu
    obtain ⟨i, -, rfl⟩ := hu
    rfl
  have HLN : (cellsN (ic z) n).length = n * 1 := by simp [cellsN]
  go_enter Try.func78, Try.ntmps78
  go_wp2_with (at_builtin; refine wpList_append_own _ rfl _ _ 34 rfl _ 2 i0 _ 1 8 Try.underlying34 hi hz0 hz1 hz2 rfl (by decide) _ _ _ rfl OE.row ⟨g, 0, none⟩ n cap _ (by rfl) HLN HNW HN1 (by simp only [maxLen]; omega) (by omega) (by simp) ?_; intro v1 w1 hown1 hgrow1 _)
  go_ret
  have K2 := KA.grown hgrow1 (by simp) (fun b hbk => (OE.base b hbk).1)
  refine ⟨_, rfl, K2, ?_⟩
  rw [show 0 + n = n by omega] at hown1
  show w1.ownsRow _ _ _ _ _ (cellsN (ic z) (n * 1))
  rw [Nat.mul_one]
  simpa [cellsN] using hown1

set_option maxHeartbeats 3200000 in
theorem s_FirstRides (v : Value) (n : Nat) (a : Nat → ByteArray) (b c d : Nat → Int) (p q r : Int) (W : World) (hs : Sl W v 4 n (gc a b c d)) (hx : Hid (∀ i, i < n → ((a i).size : Int) ≤ 1048576)) :
    Calls Try.prog 34 #[v, .agg #[.int .i64 p, .int .i64 q, .int .i64 r]] W (FirstPost n a b c d p q r W) := by
  obtain ⟨i0, hi, hz0, hz1, hz2⟩ := info_parts infoInt
  have KA := kept_alloc (Below.refl W.heap.size W) (.cells #[.int .i64 p, .int .i64 q, .int .i64 r] 30)
  have HSA := hs.kept KA
  have q0 : (W.alloc (.cells #[.int .i64 p, .int .i64 q, .int .i64 r] 30)).cell? ⟨W.heap.size, 0, none⟩ = some (.int .i64 p) := boxed_at rfl rfl
  have q1 : (W.alloc (.cells #[.int .i64 p, .int .i64 q, .int .i64 r] 30)).cell? ⟨W.heap.size, 1, none⟩ = some (.int .i64 q) := boxed_at rfl rfl
  have q2 : (W.alloc (.cells #[.int .i64 p, .int .i64 q, .int .i64 r] 30)).cell? ⟨W.heap.size, 2, none⟩ = some (.int .i64 r) := boxed_at rfl rfl
  have HG := Lib.hid (fun w h c0 c1 c2 => s_l17Ask v n a b c d p q r W.heap.size w h hx c0 c1 c2)
  obtain ⟨hn, ao, cap, rfl, hr⟩ := id hs
  clear hr
  unfold FirstPost
  rcases frC_cases n a b c d p q r with ⟨h, HT⟩ | ⟨h, h2, HT⟩ | ⟨h, h2, HT⟩
  · rw [h] at HG
    rw [HT.out.1, HT.out.2]
    clear h
    go_enter Try.func34, Try.ntmps34
    go_wp2_with (go_at_call 73; refine (HG.out _ HSA q0 q1 q2).mono ?_; rintro e w1 ⟨rfl, hb1⟩)
    refine bodyPost_ret (results_tmp2 rfl _ _ _) rfl ⟨_, rfl, kept_trans KA hb1, Out.nil _ _ _ _ _⟩
  · obtain ⟨hn12, HB0⟩ := gAsk_out h
    have HA := Lib.hid (fun w h c0 c1 c2 => s_l17Alone (.slice ao n cap) n a b c d p q r W.heap.size w h HB0 c0 c1 c2)
    rw [h] at HG
    rw [HT.out.1, HT.out.2]
    rw [h2] at HA
    clear h h2
    go_enter Try.func34, Try.ntmps34
    go_wp2_with (first | (go_at_call 77; refine (HA.out _ (HSA.kept hb1) (cell_keep hb1 q0) (cell_keep hb1 q1) (cell_keep hb1 q2)).mono ?_; rintro e w2 ⟨rfl, hb2⟩) | (go_at_call 73; refine (HG.out _ HSA q0 q1 q2).mono ?_; rintro e w1 ⟨rfl, hb1⟩))
    refine bodyPost_ret (results_tmp2 rfl _ _ _) rfl ⟨_, rfl, kept_trans (kept_trans KA hb1) hb2, Out.nil _ _ _ _ _⟩
  · obtain ⟨hn12, HB0⟩ := gAsk_out h
    have HB := Lib.hid HB0
    have HA := Lib.hid (fun w h c0 c1 c2 => s_l17Alone (.slice ao n cap) n a b c d p q r W.heap.size w h HB0 c0 c1 c2)
    rw [h] at HG
    rw [HT.out.1, HT.out.2]
    rw [h2] at HA
    have HFT := Lib.hid (fun (k s m : Nat) (hk : k < n) (hsm : s + m = k) w u h1 h2 c0 c1 c2 => s_l17Fits (.slice ao n cap) u n (m + 1) a b c d (fun i => ((s + i : Nat) : Int)) p q r W.heap.size w h1 h2 (by omega) (fun i hi => ⟨by omega, by show ((s + i : Nat) : Int) < n; omega⟩) HB c0 c1 c2)
    have FO := Lib.hid (fun s m k h => fitAll_from b c d p q r s m k h)
    have FY := Lib.hid (fun (k s : Nat) (x : Int) h h1 => frS_yes (ft := ftB b c d p q r) (k := k) (s := s) (x := x) h h1)
    have FN := Lib.hid (fun (k s : Nat) (x : Int) h h1 => frS_no (ft := ftB b c d p q r) (k := k) (s := s) (x := x) h h1)
    have FZ := Lib.hid (frS_zero (ftB b c d p q r))
    have FR := Lib.hid (fun (k s : Nat) (x : Int) h => frR_of (ft := ftB b c d p q r) (k := k) (s := s) (x := x) h)
    clear HB0 h h2 HT
    generalize frR (ftB b c d p q r) = rd at *
    generalize frS (ftB b c d p q r) = fr at *
    generalize ftB b c d p q r = ft at *
    go_enter Try.func34, Try.ntmps34
    go_wp2_with (first | (go_at_call 77; refine (HA.out _ (HSA.kept hb1) (cell_keep hb1 q0) (cell_keep hb1 q1) (cell_keep hb1 q2)).mono ?_; rintro e w2 ⟨rfl, hb2⟩) | (go_at_call 73; refine (HG.out _ HSA q0 q1 q2).mono ?_; rintro e w1 ⟨rfl, hb1⟩))
    have KB := kept_trans (kept_trans KA hb1) hb2
    have HSB := (HSA.kept hb1).kept hb2
    have q0 := cell_keep (kept_trans hb1 hb2) q0
    have q1 := cell_keep (kept_trans hb1 hb2) q1
    have q2 := cell_keep (kept_trans hb1 hb2) q2
    clear HA HG
    go_loopw [7, 8, 9, 10] (fun o rs u i wr => ∃ (k s m : Nat) (rr : Int) (x : Value) (g cp : Nat), k ≤ n ∧ s + m = k ∧ i = .int .i64 k ∧ rs = .int .i64 rr ∧ x = o ∧ 0 ≤ rr ∧ rr ≤ k ∧ u = .slice (some ⟨g, 0, none⟩) m cp ∧ Hid (fr k = (rr, s)) ∧ Hid (x.ownBlock ≠ some g) ∧ Hid (Row wr g 0 m (ic fun i => ((s + i : Nat) : Int))) ∧ Below w2.heap.size w2 wr ∧ Out wr w2.heap.size 2 1 x k (ic rd)) (fun _ _ _ i _ => n - (intOf i).toNat)
    case atStart =>
      refine ⟨0, 0, 0, 0, _, _, _, by omega, rfl, rfl, rfl, rfl, by omega, by omega, rfl, FZ.out, ?_, ?_, kept_alloc (kept_alloc (Below.refl _ _) _) _, ?_⟩
      · show Value.ownBlock (.slice (some ⟨w2.heap.size, 0, none⟩) 0 0) ≠ some (w2.heap.size + 1)
        simp [Value.ownBlock]
      · exact ⟨by simp, fun i hi => by omega⟩
      · exact (Out.empty _ _ _ _ _ (Nat.le_refl _)).kept (kept_alloc (Below.refl _ _) _)
    case round =>
      obtain ⟨k, s, m, rr, x, g, cp, hk, hsm, rfl, rfl, rfl, hr0, hr1, rfl, HF, HNE, hrow, hb, hown⟩ := hrel
      by_cases hlt : k < n
      · have HOW := Lib.hid (s_l00Own g cp m (fun i => ((s + i : Nat) : Int)) wr hrow.out (by omega))
        have hm : m ≤ 1048576 := by omega
        have OB : Hid (∀ b, x.ownBlock = some b → b < wr.heap.size) := fun b hb => (hown.base b hb).2
        have HX := Lib.hid hown
        have e1 : rr + 1 ≤ 9223372036854775807 := by omega
        cases hft : ft s k
        · have HN : Hid (fr (k + 1) = (rr + 1, k)) := FN.out k s rr HF.out hft
          clear hown hrow HNE
          go_wp2_with (first
            | (((at_builtin; refine wpList_append_own_at _ rfl _ _ 34 rfl _ 2 i0 _ 1 8 Try.underlying34 hi hz0 hz1 hz2 rfl (by decide) _ _ _ rfl ((ownX.kept (kept_alloc (Below.refl _ _) _)).row.alloc _) ⟨x3.heap.size + 1, 0, none⟩ 1 1 _ (by rfl) (by rfl) (laid_at (by simp)) (by intro u hu; simp at hu; first | (rcases hu with rfl | rfl <;> rfl) | (subst hu; rfl)) (by simp only [maxLen]; omega) (by omega) (by have hbs := hbX.size; simp at hbs ⊢; omega) ?_; intro vC wC hownC hgrowC hnilC hatC)); skip)
            | (go_at_call 69; have HF3 := Lib.hid (HFT.out k s m hlt hsm wB _ (HSB.kept (kept_trans hb hbB)) (ownM.sl (by omega)) (cell_keep (kept_trans hb hbB) q0) (cell_keep (kept_trans hb hbB) q1) (cell_keep (kept_trans hb hbB) q2)); rw [FO.out s m k hsm, hft] at HF3; refine HF3.out.mono ?_; rintro e x3 ⟨rfl, hbx3⟩; have K3 := kept_trans hbB hbx3; have ownX := HX.out.kept K3; have hbX := kept_trans hb K3)
            | (((at_builtin; refine wpList_append_own_at _ rfl _ _ 34 rfl _ 2 i0 _ 1 8 Try.underlying34 hi hz0 hz1 hz2 rfl (by decide) _ _ _ rfl ((own1).row.alloc _) ⟨x1.heap.size, 0, none⟩ 1 1 _ (by rfl) (by rfl) (laid_at (by simp)) (by intro u hu; simp at hu; first | (rcases hu with rfl | rfl <;> rfl) | (subst hu; rfl)) (by simp only [maxLen]; omega) (by omega) (by have hbs := hbx1.size; simp at hbs ⊢; omega) ?_; intro vB wB hownB hgrowB hnilB hatB)); have hbB := below_of_append hbx1 own1.row hgrowB; have ownM : Out wB wr.heap.size 2 1 vB (m + 1) (ic fun i => ((s + i : Nat) : Int)) := Out.snoc1 hownB (by simp only [ic]; rw [hsm]))
            | (go_at_call 78; refine HOW.out.mono ?_; rintro e x1 ⟨u, rfl, hbx1, own1⟩))
          have RW1 : Hid (Row (x3.alloc (.cells #[.int .i64 k] 2)) x3.heap.size 0 1 (ic fun i => ((k + i : Nat) : Int))) := ⟨by simp, fun i hi => by
            have h0 : i = 0 := by omega
            subst h0
            exact boxed_at rfl rfl⟩
          have R1 := Lib.hid (Out.snoc1 hownC (by simp only [ic]; rw [FR.out _ _ _ HN.out]))
          have R2 := below_of_append (kept_alloc hbX _) (ownX.kept (kept_alloc (Below.refl _ _) _)).row hgrowC
          have RX : Hid (Row wC x3.heap.size 0 1 (ic fun i => ((k + i : Nat) : Int))) := (RW1.out.kept (kept_alloc (Below.refl _ _) _)).far hgrowC (fun e => by
            have h1 := OB.out _ e.symm
            have h2 := K3.size
            omega)
          have RN : Hid (vC.ownBlock ≠ some x3.heap.size) := fun e => by
            rcases hatC with h | h
            · have h1 := OB.out _ (h.symm.trans e)
              have h2 := K3.size
              omega
            · rw [h] at e; simp at e; omega
          clear hownC hgrowC hatC hnilC hownB hgrowB hatB hnilB ownX ownM own1 RW1 hb hft
          try go_wp2
          go_roundw
          case rel => exact ⟨k + 1, k, 1, rr + 1, _, _, _, by omega, rfl, by go_num, rfl, rfl, by omega, by omega, rfl, HN, RN, RX, R2, R1.out⟩
          case measure => simp [intOf]; omega
        · have HN : Hid (fr (k + 1) = (rr, s)) := FY.out k s rr HF.out hft
          clear hown hrow HNE
          go_wp2_with (first
            | (((at_builtin; refine wpList_append_own_at _ rfl _ _ 34 rfl _ 2 i0 _ 1 8 Try.underlying34 hi hz0 hz1 hz2 rfl (by decide) _ _ _ rfl ((ownX).row.alloc _) ⟨x3.heap.size, 0, none⟩ 1 1 _ (by rfl) (by rfl) (laid_at (by simp)) (by intro u hu; simp at hu; first | (rcases hu with rfl | rfl <;> rfl) | (subst hu; rfl)) (by simp only [maxLen]; omega) (by omega) (by have hbs := hbX.size; simp at hbs ⊢; omega) ?_; intro vC wC hownC hgrowC hnilC hatC)); skip)
            | (go_at_call 69; have HF3 := Lib.hid (HFT.out k s m hlt hsm wB _ (HSB.kept (kept_trans hb hbB)) (ownM.sl (by omega)) (cell_keep (kept_trans hb hbB) q0) (cell_keep (kept_trans hb hbB) q1) (cell_keep (kept_trans hb hbB) q2)); rw [FO.out s m k hsm, hft] at HF3; refine HF3.out.mono ?_; rintro e x3 ⟨rfl, hbx3⟩; have K3 := kept_trans hbB hbx3; have ownX := HX.out.kept K3; have hbX := kept_trans hb K3)
            | (((at_builtin; refine wpList_append_own_at _ rfl _ _ 34 rfl _ 2 i0 _ 1 8 Try.underlying34 hi hz0 hz1 hz2 rfl (by decide) _ _ _ rfl ((own1).row.alloc _) ⟨x1.heap.size, 0, none⟩ 1 1 _ (by rfl) (by rfl) (laid_at (by simp)) (by intro u hu; simp at hu; first | (rcases hu with rfl | rfl <;> rfl) | (subst hu; rfl)) (by simp only [maxLen]; omega) (by omega) (by have hbs := hbx1.size; simp at hbs ⊢; omega) ?_; intro vB wB hownB hgrowB hnilB hatB)); have hbB := below_of_append hbx1 own1.row hgrowB; have ownM : Out wB wr.heap.size 2 1 vB (m + 1) (ic fun i => ((s + i : Nat) : Int)) := Out.snoc1 hownB (by simp only [ic]; rw [hsm]))
            | (go_at_call 78; refine HOW.out.mono ?_; rintro e x1 ⟨u, rfl, hbx1, own1⟩))
          obtain ⟨g2, cp2, rfl, hg2, hrow2⟩ := ownM.opened (by omega)
          have hg3 : g2 < x3.heap.size := Nat.lt_of_lt_of_le hrow2.1 hbx3.size
          rw [Nat.mul_one] at hrow2
          have R1 := Lib.hid (Out.snoc1 hownC (by simp only [ic]; rw [FR.out _ _ _ HN.out]))
          have R2 := below_of_append hbX ownX.row hgrowC
          have RX : Hid (Row wC g2 0 (m + 1) (ic fun i => ((s + i : Nat) : Int))) := ((hrow2.kept hbx3).kept (kept_alloc (Below.refl _ _) _)).far hgrowC (fun e => by
            have h1 := OB.out _ e.symm
            omega)
          have RN : Hid (vC.ownBlock ≠ some g2) := fun e => by
            rcases hatC with h | h
            · have h1 := OB.out _ (h.symm.trans e)
              omega
            · rw [h] at e; simp at e; omega
          clear hownC hgrowC hatC hnilC hownB hgrowB hatB hnilB ownX ownM own1 hrow2 hb hft
          try go_wp2
          go_roundw
          case rel => exact ⟨k + 1, s, m + 1, rr, _, _, _, by omega, by omega, by go_num, rfl, rfl, by omega, by omega, rfl, HN, RN, RX, R2, R1.out⟩
          case measure => simp [intOf]; omega
      · obtain rfl : k = n := by omega
        go_wp2
        refine bodyPost_ret (results_tmp2 rfl _ _ _) rfl ⟨_, rfl, kept_trans KB hb, hown.base_le KB.size⟩

end Go.Proofs.Ytfnollbeeehpnaa
