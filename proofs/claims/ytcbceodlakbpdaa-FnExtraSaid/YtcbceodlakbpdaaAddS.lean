/- A timetable with a further ride, as the reference makes it. -/
import Derived.Test.YtcbceodlakbpdaaAddP
import Derived.Test.YtcbceodlakbpdaaCopyW
import Derived.Deep.DeepMust
namespace Go.Proofs.Ytcbceodlakbpdaa
open Go.RowKit Go.Deep
set_option linter.unusedVariables false

theorem ins_list {n k : Nat} (hk : k ≤ n) (l t : Int) (lv tk : Nat → Int) :
    (cellsN (fun i => rc lv tk (0 + i)) (k * 2) ++ [.int .i64 l, .int .i64 t]) ++ cellsN (fun i => rc lv tk (k * 2 + i)) ((n - k) * 2) = cellsN (rc (insF k l lv) (insF k t tk)) ((n + 1) * 2) := by
  have e1 : cellsN (fun i => rc lv tk (0 + i)) (k * 2) = cellsN (rc (insF k l lv) (insF k t tk)) (k * 2) := cellsN_congr (fun i hi => by rw [Nat.zero_add, ins_low hi])
  have e2 : ([.int .i64 l, .int .i64 t] : List Value) = cellsN (fun i => rc (insF k l lv) (insF k t tk) (k * 2 + i)) 2 := by
    rw [cellsN_succ, cellsN_succ]
    simp only [cellsN, List.range_zero, List.map_nil, List.nil_append, Nat.add_zero, ins_at0, ins_at1]
    rfl
  have e3 : cellsN (fun i => rc lv tk (k * 2 + i)) ((n - k) * 2) = cellsN (fun i => rc (insF k l lv) (insF k t tk) (k * 2 + 2 + i)) ((n - k) * 2) := cellsN_congr (fun i hi => by rw [ins_high])
  rw [e1, e2, e3, cellsN_append, cellsN_append]
  congr 1
  omega
theorem keep_made {B : Nat} {w0 wr w1 : World} {o : Obj} {row : Option Nat} (hb : Below B w0 wr) (hg : (wr.alloc o).grownBy w1 row) (hB : B ≤ wr.heap.size) (hv : ∀ b, row = some b → B ≤ b) : Below B w0 w1 :=
  (hb.alloc hB o).grown hg (by simp; omega) hv
theorem keep_grown {B : Nat} {w0 wr w1 : World} {row : Option Nat} (hb : Below B w0 wr) (hg : wr.grownBy w1 row) (hB : B ≤ wr.heap.size) (hv : ∀ b, row = some b → B ≤ b) : Below B w0 w1 :=
  hb.grown hg hB hv

theorem rc_one (lv tk : Nat → Int) (a m : Nat) : ∀ u ∈ cellsN (fun i => rc lv tk (a + i)) m, u.oneCell' = true := by
  intro u hu
  simp only [cellsN, List.mem_map] at hu
  obtain ⟨j, -, rfl⟩ := hu
  rfl
theorem row_part {W : World} {b n : Nat} {lv tk : Nat → Int} (hs : Row W b 0 (n * 2) (rc lv tk)) {a m : Nat} (h : a + m ≤ n * 2) :
    ∀ w, Below W.heap.size W w → ∀ j u, (cellsN (fun i => rc lv tk (a + i)) m)[j]? = some u → w.cell? ((⟨b, a, none⟩ : Addr).add j) = some u := by
  intro w hb j u hj
  have h1 := (hs.kept hb).list (a := a) (m := m) h j u hj
  rw [Nat.zero_add] at h1
  exact h1

theorem own_at {B g n c : Nat} (h : B ≤ g) : ∀ b, (Value.slice (some ⟨g, 0, none⟩) n c).ownBlock = some b → B ≤ b := by
  intro b hb
  simp only [Value.ownBlock, Option.some.injEq] at hb
  omega
theorem own_ne {B g n c : Nat} {o : Nat} (h : B < g) : some (⟨B, o, none⟩ : Addr).block ≠ (Value.slice (some ⟨g, 0, none⟩) n c).ownBlock := by
  simp only [Value.ownBlock, ne_eq, Option.some.injEq]
  omega

set_option maxHeartbeats 1600000 in
theorem s_l19Put (b n cp : Nat) (lv tk : Nat → Int) (l t : Int) (W : World) (hn : n ≤ 24) (hcp : n ≤ cp ∧ cp ≤ 9223372036854775807) (hs : Row W b 0 (n * 2) (rc lv tk)) (HM : Hid (∀ i j, i ≤ j → j < n → lv i ≤ lv j)) :
    Calls Try.prog 62 #[.slice (some ⟨b, 0, none⟩) n cp, .agg #[.int .i64 l, .int .i64 t]] W fun e W' => ∃ v, e = .returned v ∧ Below W.heap.size W W' ∧
      Out W' W.heap.size 48 2 v (n + 1) (rc (insF (insK n lv l) l lv) (insF (insK n lv l) t tk)) := by
  obtain ⟨i0, hi, hz0, hz1, hz2⟩ := info_parts infoRide
  have HR := Lib.hid (hs.kept (kept_alloc (Below.refl _ _) (.cells #[.int .i64 l, .int .i64 t] 48)))
  have q0 : Hid ((W.alloc (.cells #[.int .i64 l, .int .i64 t] 48)).cell? ⟨W.heap.size, 0, none⟩ = some (.int .i64 l)) := by show _ = _; rw [World.cell?, show (W.alloc (.cells #[.int .i64 l, .int .i64 t] 48)).heap[W.heap.size]? = some (.cells #[.int .i64 l, .int .i64 t] 48 (0, 0)) from heap_alloc_new W _]; rfl
  have q1 : Hid ((W.alloc (.cells #[.int .i64 l, .int .i64 t] 48)).cell? ⟨W.heap.size, 1, none⟩ = some (.int .i64 t)) := by show _ = _; rw [World.cell?, show (W.alloc (.cells #[.int .i64 l, .int .i64 t] 48)).heap[W.heap.size]? = some (.cells #[.int .i64 l, .int .i64 t] 48 (0, 0)) from heap_alloc_new W _]; rfl
  have hW := kept_alloc (Below.refl W.heap.size W) (.cells #[.int .i64 l, .int .i64 t] 48)
  have S1 : Hid (∀ k, k ≤ n → ∀ w, Below W.heap.size W w → ∀ j u, (cellsN (fun i => rc lv tk (0 + i)) (k * 2))[j]? = some u → w.cell? ((⟨b, 0, none⟩ : Addr).add j) = some u) := fun k hk => row_part hs (by omega)
  have S2 : Hid (∀ k, k ≤ n → ∀ w, Below W.heap.size W w → ∀ j u, (cellsN (fun i => rc lv tk (k * 2 + i)) ((n - k) * 2))[j]? = some u → w.cell? ((⟨b, k * 2, none⟩ : Addr).add j) = some u) := fun k hk => row_part hs (by omega)
  clear hs
  have HF : Hid (∀ k, k ≤ n → (∀ i, i < k → lv i ≤ l) → (k < n → l < lv k) → ∀ w3 v3 c xs, w3.ownsRow W.heap.size 48 2 v3 c xs → c = n + 1 → xs = (([] ++ cellsN (fun i => rc lv tk (0 + i)) (k * 2)) ++ [.int .i64 l, .int .i64 t]) ++ cellsN (fun i => rc lv tk (k * 2 + i)) ((n - k) * 2) →
      Out w3 W.heap.size 48 2 v3 (n + 1) (rc (insF (insK n lv l) l lv) (insF (insK n lv l) t tk))) := fun k hk h1 h2 w3 v3 c xs h hc hx => by
    rw [insK_eq hk h1 h2]
    rw [hx, hc, List.nil_append, ins_list hk] at h
    exact h
  go_enter Try.func62, Try.ntmps62
  go_wp2
  go_loopw [5] (fun i wr => ∃ k : Nat, k ≤ n ∧ i = .int .i64 k ∧ Below (W.alloc (.cells #[.int .i64 l, .int .i64 t] 48)).heap.size (W.alloc (.cells #[.int .i64 l, .int .i64 t] 48)) wr ∧ Hid (∀ i, k ≤ i → i < n → l < lv i)) (fun i _ => (intOf i).toNat)
  case atStart => exact ⟨n, Nat.le_refl _, rfl, Below.refl _ _, fun i h1 h2 => by omega⟩
  case round =>
    obtain ⟨k, hk, rfl, hb, hno⟩ := hrel
    have hRr := HR.out.kept hb
    have x0 := cell_kept hb q0.out
    have x1 := cell_kept hb q1.out
    by_cases hmore : 0 < k ∧ l < lv (k - 1)
    · obtain ⟨hk0, hl0⟩ := hmore
      obtain ⟨hs0, -⟩ := rcells hRr (k := k - 1) (by omega)
      rw [Nat.zero_add] at hs0
      have HN : Hid (∀ i, k - 1 ≤ i → i < n → l < lv i) := fun i h1 h2 => by
        by_cases e : i = k - 1
        · rw [e]; exact hl0
        · exact hno.out i (by omega) h2
      clear hRr x1
      go_wp2_with fail
      go_quiet (fail)
      go_wp2_with fail
      go_roundw
      case rel => exact ⟨k - 1, by omega, by go_num, (by repeat (first | assumption | exact Below.refl _ _ | refine kept_drew ?_ | refine kept_drewN ?_ _ | refine kept_alloc ?_ _ | refine kept_set ?_ ?_ _ | (simp; done) | (simp; omega) | refine kept_trans ?_ (by assumption))), HN⟩
      case measure => simp [intOf]; omega
    · have HF := Lib.hid (HF.out k hk (fun i hi => Int.le_trans (HM.out i (k - 1) (by omega) (by omega)) (by omega)) (fun h => hno.out k (Nat.le_refl _) h))
      have HP0 : Hid (Below W.heap.size W wr) := kept_trans hW hb
      have hsz : W.heap.size ≤ wr.heap.size := HP0.out.size
      have hcases : (cp ≤ 0 ∧ k ≤ 0 ∧ decide (0 < k) = false) ∨ (¬ cp = 0 ∧ ¬ cp = k ∧ k < cp ∧ decide (0 < k) = false) ∨
          (¬ cp = 0 ∧ ¬ cp = k ∧ k < cp ∧ 0 < k ∧ wr.cell? ⟨b, (k - 1) * 2, none⟩ = some (.int .i64 (lv (k - 1))) ∧ decide (l < lv (k - 1)) = false) ∨
          (¬ cp = 0 ∧ cp = k ∧ 0 < k ∧ wr.cell? ⟨b, (k - 1) * 2, none⟩ = some (.int .i64 (lv (k - 1))) ∧ decide (l < lv (k - 1)) = false) := by
        by_cases h0 : 0 < k
        · have hc : wr.cell? ⟨b, (k - 1) * 2, none⟩ = some (.int .i64 (lv (k - 1))) := by
            have := (rcells hRr (k := k - 1) (by omega)).1
            rw [Nat.zero_add] at this
            exact this
          have hd : decide (l < lv (k - 1)) = false := by simp; omega
          by_cases h1 : cp = k
          · exact .inr (.inr (.inr ⟨by omega, h1, h0, hc, hd⟩))
          · exact .inr (.inr (.inl ⟨by omega, h1, by omega, h0, hc, hd⟩))
        · have hd : decide (0 < k) = false := by simp; omega
          by_cases h1 : cp = 0
          · exact .inl ⟨by omega, by omega, hd⟩
          · exact .inr (.inl ⟨h1, by omega, by omega, hd⟩)
      have S1 := Lib.hid (S1.out k hk)
      have S2 := Lib.hid (S2.out k hk)
      clear hRr hW HM hno hmore
      have hb2 := hb.size
      simp at hb2
      rcases hcases with ⟨h1, h2, hd⟩ | ⟨h1, h2, h3, hd⟩ | ⟨h1, h2, h3, h4, hs0, hd⟩ | ⟨h1, h2, h4, hs0, hd⟩
      · go_wp2_with fail
        go_quiet (fail)
        have HP1 : Hid (Below W.heap.size W (wr.drewN nq)) := kept_drewN HP0.out nq
        have y0 : Hid ((wr.drewN nq).cell? ⟨W.heap.size, 0, none⟩ = some (.int .i64 l)) := x0
        have y1 : Hid ((wr.drewN nq).cell? ⟨W.heap.size, 1, none⟩ = some (.int .i64 t)) := x1
        have hz : wr.heap.size = (wr.drewN nq).heap.size := rfl
        rw [hz] at hsz hb2
        clear hz hb x0 x1 HP0
        generalize wr.drewN nq = wq at *
        clear hd
        go_wp2_with (first
          | (at_builtin; refine wpList_append_own _ rfl _ _ 26 rfl W.heap.size 48 i0 _ 2 16 Try.underlying26 hi hz0 hz1 hz2 rfl (by decide) v2 _ _ rfl hown2 _ _ _ (cellsN (fun i => rc lv tk (k * 2 + i)) ((n - k) * 2)) rfl (by rw [cellsN_length] <;> omega) (by first | exact S2.out _ HP3.out | (intro j u hj; have := (cellsN_at hj).1; omega)) (rc_one _ _ _ _) (by simp only [maxLen]; omega) (by omega) hsz3 ?_; intro v3 w3 hown3 hgrow3 _)
          | (at_builtin; refine wpList_append_own _ rfl _ _ 26 rfl W.heap.size 48 i0 _ 2 16 Try.underlying26 hi hz0 hz1 hz2 rfl (by decide) v1 _ _ rfl (hown1.alloc _) ⟨w1.heap.size, 0, none⟩ 1 1 [.int .i64 l, .int .i64 t] rfl rfl laid_new (by intro u hu; simp at hu; rcases hu with rfl | rfl <;> rfl) (by simp only [maxLen]; omega) (by omega) (by simp; omega) ?_; intro v2 w2 hown2 hgrow2 _; have HP3 : Hid (Below W.heap.size W w2) := keep_made HP2.out hgrow2 HP2.out.size (fun b hb => (hown1.lt b hb).1); have hsz3 : W.heap.size ≤ w2.heap.size := HP3.out.size)
          | (at_builtin; refine wpList_append_own _ rfl _ _ 26 rfl W.heap.size 48 i0 _ 2 16 Try.underlying26 hi hz0 hz1 hz2 rfl (by decide) (.slice (some ⟨wq.heap.size, 0, none⟩) 0 0) _ _ rfl (World.ownsRow_made wq #[] 0 hsz (Nat.zero_le _) rfl) ⟨b, 0, none⟩ _ _ (cellsN (fun i => rc lv tk (0 + i)) (k * 2)) rfl (by rw [cellsN_length] <;> omega) (S1.out _ (kept_alloc HP1.out _)) (rc_one _ _ _ _) (by simp only [maxLen]; omega) (by omega) (by simp; omega) ?_; intro v1 w1 hown1 hgrow1 _; have HP2 : Hid (Below W.heap.size W w1) := keep_made HP1.out hgrow1 hsz (own_at hsz); have hsz2 : W.heap.size ≤ w1.heap.size := HP2.out.size; have z0 : w1.cell? ⟨W.heap.size, 0, none⟩ = some (.int .i64 l) := hgrow1.cell (cell_kept (kept_alloc (Below.refl _ _) _) y0.out) (own_ne hb2); have z1 : w1.cell? ⟨W.heap.size, 1, none⟩ = some (.int .i64 t) := hgrow1.cell (cell_kept (kept_alloc (Below.refl _ _) _) y1.out) (own_ne hb2)))
        have hfin := HF.out w3 v3 _ _ hown3 (by omega) (by rw [List.nil_append])
        have hbf : Below W.heap.size W w3 := keep_grown HP3.out hgrow3 hsz3 (fun b hb => (hown2.lt b hb).1)
        go_ret
        exact ⟨v3, rfl, hbf, hfin⟩
      · go_wp2_with fail
        go_quiet (fail)
        have HP1 : Hid (Below W.heap.size W (wr.drewN nq)) := kept_drewN HP0.out nq
        have y0 : Hid ((wr.drewN nq).cell? ⟨W.heap.size, 0, none⟩ = some (.int .i64 l)) := x0
        have y1 : Hid ((wr.drewN nq).cell? ⟨W.heap.size, 1, none⟩ = some (.int .i64 t)) := x1
        have hz : wr.heap.size = (wr.drewN nq).heap.size := rfl
        rw [hz] at hsz hb2
        clear hz hb x0 x1 HP0
        generalize wr.drewN nq = wq at *
        clear hd
        go_wp2_with (first
          | (at_builtin; refine wpList_append_own _ rfl _ _ 26 rfl W.heap.size 48 i0 _ 2 16 Try.underlying26 hi hz0 hz1 hz2 rfl (by decide) v2 _ _ rfl hown2 _ _ _ (cellsN (fun i => rc lv tk (k * 2 + i)) ((n - k) * 2)) rfl (by rw [cellsN_length] <;> omega) (by first | exact S2.out _ HP3.out | (intro j u hj; have := (cellsN_at hj).1; omega)) (rc_one _ _ _ _) (by simp only [maxLen]; omega) (by omega) hsz3 ?_; intro v3 w3 hown3 hgrow3 _)
          | (at_builtin; refine wpList_append_own _ rfl _ _ 26 rfl W.heap.size 48 i0 _ 2 16 Try.underlying26 hi hz0 hz1 hz2 rfl (by decide) v1 _ _ rfl (hown1.alloc _) ⟨w1.heap.size, 0, none⟩ 1 1 [.int .i64 l, .int .i64 t] rfl rfl laid_new (by intro u hu; simp at hu; rcases hu with rfl | rfl <;> rfl) (by simp only [maxLen]; omega) (by omega) (by simp; omega) ?_; intro v2 w2 hown2 hgrow2 _; have HP3 : Hid (Below W.heap.size W w2) := keep_made HP2.out hgrow2 HP2.out.size (fun b hb => (hown1.lt b hb).1); have hsz3 : W.heap.size ≤ w2.heap.size := HP3.out.size)
          | (at_builtin; refine wpList_append_own _ rfl _ _ 26 rfl W.heap.size 48 i0 _ 2 16 Try.underlying26 hi hz0 hz1 hz2 rfl (by decide) (.slice (some ⟨wq.heap.size, 0, none⟩) 0 0) _ _ rfl (World.ownsRow_made wq #[] 0 hsz (Nat.zero_le _) rfl) ⟨b, 0, none⟩ _ _ (cellsN (fun i => rc lv tk (0 + i)) (k * 2)) rfl (by rw [cellsN_length] <;> omega) (S1.out _ (kept_alloc HP1.out _)) (rc_one _ _ _ _) (by simp only [maxLen]; omega) (by omega) (by simp; omega) ?_; intro v1 w1 hown1 hgrow1 _; have HP2 : Hid (Below W.heap.size W w1) := keep_made HP1.out hgrow1 hsz (own_at hsz); have hsz2 : W.heap.size ≤ w1.heap.size := HP2.out.size; have z0 : w1.cell? ⟨W.heap.size, 0, none⟩ = some (.int .i64 l) := hgrow1.cell (cell_kept (kept_alloc (Below.refl _ _) _) y0.out) (own_ne hb2); have z1 : w1.cell? ⟨W.heap.size, 1, none⟩ = some (.int .i64 t) := hgrow1.cell (cell_kept (kept_alloc (Below.refl _ _) _) y1.out) (own_ne hb2)))
        have hfin := HF.out w3 v3 _ _ hown3 (by omega) (by rw [List.nil_append])
        have hbf : Below W.heap.size W w3 := keep_grown HP3.out hgrow3 hsz3 (fun b hb => (hown2.lt b hb).1)
        go_ret
        exact ⟨v3, rfl, hbf, hfin⟩
      · go_wp2_with fail
        go_quiet (fail)
        have HP1 : Hid (Below W.heap.size W (wr.drewN nq)) := kept_drewN HP0.out nq
        have y0 : Hid ((wr.drewN nq).cell? ⟨W.heap.size, 0, none⟩ = some (.int .i64 l)) := x0
        have y1 : Hid ((wr.drewN nq).cell? ⟨W.heap.size, 1, none⟩ = some (.int .i64 t)) := x1
        have hz : wr.heap.size = (wr.drewN nq).heap.size := rfl
        rw [hz] at hsz hb2
        clear hz hb x0 x1 HP0
        generalize wr.drewN nq = wq at *
        clear hs0
        go_wp2_with (first
          | (at_builtin; refine wpList_append_own _ rfl _ _ 26 rfl W.heap.size 48 i0 _ 2 16 Try.underlying26 hi hz0 hz1 hz2 rfl (by decide) v2 _ _ rfl hown2 _ _ _ (cellsN (fun i => rc lv tk (k * 2 + i)) ((n - k) * 2)) rfl (by rw [cellsN_length] <;> omega) (by first | exact S2.out _ HP3.out | (intro j u hj; have := (cellsN_at hj).1; omega)) (rc_one _ _ _ _) (by simp only [maxLen]; omega) (by omega) hsz3 ?_; intro v3 w3 hown3 hgrow3 _)
          | (at_builtin; refine wpList_append_own _ rfl _ _ 26 rfl W.heap.size 48 i0 _ 2 16 Try.underlying26 hi hz0 hz1 hz2 rfl (by decide) v1 _ _ rfl (hown1.alloc _) ⟨w1.heap.size, 0, none⟩ 1 1 [.int .i64 l, .int .i64 t] rfl rfl laid_new (by intro u hu; simp at hu; rcases hu with rfl | rfl <;> rfl) (by simp only [maxLen]; omega) (by omega) (by simp; omega) ?_; intro v2 w2 hown2 hgrow2 _; have HP3 : Hid (Below W.heap.size W w2) := keep_made HP2.out hgrow2 HP2.out.size (fun b hb => (hown1.lt b hb).1); have hsz3 : W.heap.size ≤ w2.heap.size := HP3.out.size)
          | (at_builtin; refine wpList_append_own _ rfl _ _ 26 rfl W.heap.size 48 i0 _ 2 16 Try.underlying26 hi hz0 hz1 hz2 rfl (by decide) (.slice (some ⟨wq.heap.size, 0, none⟩) 0 0) _ _ rfl (World.ownsRow_made wq #[] 0 hsz (Nat.zero_le _) rfl) ⟨b, 0, none⟩ _ _ (cellsN (fun i => rc lv tk (0 + i)) (k * 2)) rfl (by rw [cellsN_length] <;> omega) (S1.out _ (kept_alloc HP1.out _)) (rc_one _ _ _ _) (by simp only [maxLen]; omega) (by omega) (by simp; omega) ?_; intro v1 w1 hown1 hgrow1 _; have HP2 : Hid (Below W.heap.size W w1) := keep_made HP1.out hgrow1 hsz (own_at hsz); have hsz2 : W.heap.size ≤ w1.heap.size := HP2.out.size; have z0 : w1.cell? ⟨W.heap.size, 0, none⟩ = some (.int .i64 l) := hgrow1.cell (cell_kept (kept_alloc (Below.refl _ _) _) y0.out) (own_ne hb2); have z1 : w1.cell? ⟨W.heap.size, 1, none⟩ = some (.int .i64 t) := hgrow1.cell (cell_kept (kept_alloc (Below.refl _ _) _) y1.out) (own_ne hb2)))
        have hfin := HF.out w3 v3 _ _ hown3 (by omega) (by rw [List.nil_append])
        have hbf : Below W.heap.size W w3 := keep_grown HP3.out hgrow3 hsz3 (fun b hb => (hown2.lt b hb).1)
        go_ret
        exact ⟨v3, rfl, hbf, hfin⟩
      · subst h2
        obtain rfl : n = cp := by omega
        go_wp2_with fail
        go_quiet (fail)
        have HP1 : Hid (Below W.heap.size W (wr.drewN nq)) := kept_drewN HP0.out nq
        have y0 : Hid ((wr.drewN nq).cell? ⟨W.heap.size, 0, none⟩ = some (.int .i64 l)) := x0
        have y1 : Hid ((wr.drewN nq).cell? ⟨W.heap.size, 1, none⟩ = some (.int .i64 t)) := x1
        have hz : wr.heap.size = (wr.drewN nq).heap.size := rfl
        rw [hz] at hsz hb2
        clear hz hb x0 x1 HP0
        generalize wr.drewN nq = wq at *
        clear hs0
        go_wp2_with (first
          | (at_builtin; refine wpList_append_own _ rfl _ _ 26 rfl W.heap.size 48 i0 _ 2 16 Try.underlying26 hi hz0 hz1 hz2 rfl (by decide) v2 _ _ rfl hown2 _ _ _ (cellsN (fun i => rc lv tk (n * 2 + i)) ((n - n) * 2)) rfl (by rw [cellsN_length] <;> omega) (by first | exact S2.out _ HP3.out | (intro j u hj; have := (cellsN_at hj).1; omega)) (rc_one _ _ _ _) (by simp only [maxLen]; omega) (by omega) hsz3 ?_; intro v3 w3 hown3 hgrow3 _)
          | (at_builtin; refine wpList_append_own _ rfl _ _ 26 rfl W.heap.size 48 i0 _ 2 16 Try.underlying26 hi hz0 hz1 hz2 rfl (by decide) v1 _ _ rfl (hown1.alloc _) ⟨w1.heap.size, 0, none⟩ 1 1 [.int .i64 l, .int .i64 t] rfl rfl laid_new (by intro u hu; simp at hu; rcases hu with rfl | rfl <;> rfl) (by simp only [maxLen]; omega) (by omega) (by simp; omega) ?_; intro v2 w2 hown2 hgrow2 _; have HP3 : Hid (Below W.heap.size W w2) := keep_made HP2.out hgrow2 HP2.out.size (fun b hb => (hown1.lt b hb).1); have hsz3 : W.heap.size ≤ w2.heap.size := HP3.out.size)
          | (at_builtin; refine wpList_append_own _ rfl _ _ 26 rfl W.heap.size 48 i0 _ 2 16 Try.underlying26 hi hz0 hz1 hz2 rfl (by decide) (.slice (some ⟨wq.heap.size, 0, none⟩) 0 0) _ _ rfl (World.ownsRow_made wq #[] 0 hsz (Nat.zero_le _) rfl) ⟨b, 0, none⟩ _ _ (cellsN (fun i => rc lv tk (0 + i)) (n * 2)) rfl (by rw [cellsN_length] <;> omega) (S1.out _ (kept_alloc HP1.out _)) (rc_one _ _ _ _) (by simp only [maxLen]; omega) (by omega) (by simp; omega) ?_; intro v1 w1 hown1 hgrow1 _; have HP2 : Hid (Below W.heap.size W w1) := keep_made HP1.out hgrow1 hsz (own_at hsz); have hsz2 : W.heap.size ≤ w1.heap.size := HP2.out.size; have z0 : w1.cell? ⟨W.heap.size, 0, none⟩ = some (.int .i64 l) := hgrow1.cell (cell_kept (kept_alloc (Below.refl _ _) _) y0.out) (own_ne hb2); have z1 : w1.cell? ⟨W.heap.size, 1, none⟩ = some (.int .i64 t) := hgrow1.cell (cell_kept (kept_alloc (Below.refl _ _) _) y1.out) (own_ne hb2)))
        have hfin := HF.out w3 v3 _ _ hown3 (by omega) (by rw [List.nil_append])
        have hbf : Below W.heap.size W w3 := keep_grown HP3.out hgrow3 hsz3 (fun b hb => (hown2.lt b hb).1)
        go_ret
        exact ⟨v3, rfl, hbf, hfin⟩

end Go.Proofs.Ytcbceodlakbpdaa
