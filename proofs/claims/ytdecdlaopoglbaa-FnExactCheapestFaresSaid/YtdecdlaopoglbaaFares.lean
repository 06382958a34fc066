/- Contracts on slices of structs with a text first: Fare. -/
import Derived.Test.YtdecdlaopoglbaaName
import Derived.Test.YtdecdlaopoglbaaOpen
import Derived.Test.YtdecdlaopoglbaaGroups
namespace Go.Proofs.Ytdecdlaopoglbaa
open Go.RowKit Go.Deep
set_option linter.unusedVariables false
set_option maxRecDepth 100000

theorem infoFare : (Try.prog.info? 59).map (fun i => (i.zero, i.size, i.bytes)) = some (some (.agg #[.string ⟨#[]⟩, .int .i64 0, .int .i64 0, .int .i64 0]), 4, 40) := by kernel_rfl

theorem sz_FareS (v : Value) (n : Nat) (a : Nat → ByteArray) (b c d : Nat → Int) (left : Int) (W : World) (hs : Sl W v 4 n (gc a b c d)) (h : 0 ≤ left ∧ left ≤ 1048576) (hx : Hid (∀ i, i < n → ((a i).size : Int) ≤ 9223372036854775807)) :
    Calls Try.prog 6 #[v, .int .i64 left] W fun e W' => ∃ r, e = .returned (.int .i64 r) ∧ (-1 ≤ r ∧ r ≤ left) ∧ Hid (0 ≤ r → (n : Int) ≤ left ∧ ∀ i, i < n → ((a i).size : Int) ≤ 1048576) ∧ Below W.heap.size W W' := by
  obtain ⟨h0, h1⟩ := h
  obtain ⟨hn, ao, cap, rfl, hr⟩ := hs
  have hn' : (n : Int) ≤ 17592186044416 := by omega
  rcases (show left < n ∨ (n : Int) ≤ left by omega) with hl | hl
  · clear hr
    go_enter Try.func6, Try.ntmps6
    go_wp2
    go_ret
    exact ⟨_, rfl, by omega, fun h => by omega, (by repeat (first | assumption | exact Below.refl _ _ | refine kept_drew ?_ | refine kept_drewN ?_ _ | refine kept_alloc ?_ _ | refine kept_set ?_ ?_ _ | (simp; done) | (simp; omega) | refine kept_trans ?_ (by assumption)))⟩
  · rcases hr with h0n | ⟨g, off, rfl, hr⟩
    · have hl2 : ¬ left - (n : Int) < 0 := by omega
      have h0' : n ≤ 0 := by omega
      go_enter Try.func6, Try.ntmps6
      go_wp2
      refine wp_loop_rounds 1 ?_
      rw [rounds_succ]
      go_wp2
      go_ret
      exact ⟨_, rfl, by omega, fun _ => ⟨hl, fun i hi => by omega⟩, (by repeat (first | assumption | exact Below.refl _ _ | refine kept_drew ?_ | refine kept_drewN ?_ _ | refine kept_alloc ?_ _ | refine kept_set ?_ ?_ _ | (simp; done) | (simp; omega) | refine kept_trans ?_ (by assumption)))⟩
    · have hl2 : ¬ left - (n : Int) < 0 := by omega
      go_enter Try.func6, Try.ntmps6
      go_wp2
      go_loopw [1, 5] (fun l i wr => ∃ (j : Nat) (L : Int), j ≤ n ∧ i = .int .i64 j ∧ l = .int .i64 L ∧ (0 ≤ L ∧ L ≤ left) ∧ Hid (∀ i, i < j → ((a i).size : Int) ≤ 1048576) ∧ Below W.heap.size W wr) (fun _ i _ => n - (intOf i).toNat)
      case atStart => exact ⟨0, _, Nat.zero_le _, rfl, rfl, by omega, fun i hi => absurd hi (by omega), (by repeat (first | assumption | exact Below.refl _ _ | refine kept_drew ?_ | refine kept_drewN ?_ _ | refine kept_alloc ?_ _ | refine kept_set ?_ ?_ _ | (simp; done) | (simp; omega) | refine kept_trans ?_ (by assumption)))⟩
      case round =>
        obtain ⟨j, L, hj, rfl, rfl, ⟨hL0, hL1⟩, hno, hb⟩ := hrel
        by_cases hlt : j < n
        · obtain ⟨hs0, hs1, hs2, hs3⟩ := gccells (hr.kept hb) hlt
          have hsz := hx.out j hlt
          clear hr
          go_wp2_with fail
          refine (sz_Fare (a j) (b j) (c j) (d j) _ _ (by omega) hsz).mono ?_
          rintro e w1 ⟨r, rfl, ⟨hr0, hr1⟩, hq, hb1⟩
          rcases (show r < 0 ∨ 0 ≤ r by omega) with hr2 | hr2
          · go_wp2_with fail
            go_ret
            exact ⟨_, rfl, by omega, fun h => absurd h (by omega), kept_trans hb hb1⟩
          · have hq' := hq.out hr2
            have HN : Hid (∀ i, i < j + 1 → ((a i).size : Int) ≤ 1048576) := fun i hi => by
              by_cases e : i = j
              · rw [e]; omega
              · exact hno.out i (by omega)
            go_wp2_with fail
            go_roundw
            case rel => exact ⟨j + 1, r, by omega, by go_num, rfl, by omega, HN, kept_trans hb hb1⟩
            case measure => simp [intOf]; omega
        · obtain rfl : j = n := by omega
          go_wp2
          go_ret
          exact ⟨_, rfl, by omega, fun _ => ⟨hl, hno.out⟩, hb⟩

theorem toFareS_any (v : Value) (n : Nat) (a : Nat → ByteArray) (b c d : Nat → Int) (W : World) (h : Sl W v 4 n (gc a b c d)) (hle : (n : Int) ≤ 1048576) :
    Calls Try.prog 9 #[v] W fun e W' => e = .returned (.slice (some ⟨W.heap.size, 0, none⟩) n n) ∧ Below W.heap.size W W' ∧ W'.rowIs W.heap.size 59 (n * 4) (gc a b c d) := by
  obtain ⟨hn, ao, cap, rfl, h⟩ := h
  obtain ⟨i0, hi, hz0, hz1, hz2⟩ := info_parts infoFare
  have hmk : ∀ w : World, (Instr.makeSlice 28 (.int .i64 (n : Int)) (.int .i64 (n : Int))).run Try.prog w = .ok (.slice (some ⟨w.heap.size, 0, none⟩) n n) (w.alloc (.cells (madeCells #[.string ⟨#[]⟩, .int .i64 0, .int .i64 0, .int .i64 0] (n * 4)) 59)) := by
    intro w
    have hr := run_make (P := Try.prog) w 28 59 i0 _ Try.underlying28 hi hz0 .i64 .i64 n n (by omega) (Int.le_refl _) (by rw [hz2]; omega) (by omega)
    rw [hz1] at hr
    simp only [Int.toNat_natCast] at hr
    exact hr
  have hmade : ∀ w : World, ∃ D, (w.alloc (.cells (madeCells #[.string ⟨#[]⟩, .int .i64 0, .int .i64 0, .int .i64 0] (n * 4)) 59)).rowIs w.heap.size 59 (n * 4) D := fun w =>
    ⟨fun i => ((madeCells #[.string ⟨#[]⟩, .int .i64 0, .int .i64 0, .int .i64 0] (n * 4))[i]?).getD undef, _, blk_alloc_new _ _, size_madeCells _ _, fun i hi => at_getD4 (by rw [size_madeCells]; exact hi)⟩
  clear hi hz0 hz1 hz2
  rcases h with h0 | ⟨g, off, rfl, hr⟩
  · have h0' : n ≤ 0 := by omega
    clear h0
    have hmade := Lib.hid hmade
    go_enter Try.func9, Try.ntmps9
    go_wp2
    refine wp_loop_rounds 1 ?_
    rw [rounds_succ]
    go_wp2
    go_ret
    exact ⟨rfl, (by repeat (first | assumption | exact Below.refl _ _ | refine kept_drew ?_ | refine kept_drewN ?_ _ | refine kept_alloc ?_ _ | refine kept_set ?_ ?_ _ | (simp; done) | (simp; omega) | refine kept_trans ?_ (by assumption))), ((hmade.out W).choose_spec).congr (fun i hi => by omega)⟩
  · obtain ⟨D, hD⟩ := hmade W
    have hD := Lib.hid hD
    clear hmade
    go_enter Try.func9, Try.ntmps9
    go_wp2
    go_loopw [4] (fun i wr => ∃ k : Nat, k ≤ n ∧ i = .int .i64 k ∧ Below W.heap.size W wr ∧ wr.rowIs W.heap.size 59 (n * 4) (over (k * 4) (gc a b c d) D)) (fun i _ => n - (intOf i).toNat)
    case atStart => exact ⟨0, Nat.zero_le _, rfl, (by repeat (first | assumption | exact Below.refl _ _ | refine kept_drew ?_ | refine kept_drewN ?_ _ | refine kept_alloc ?_ _ | refine kept_set ?_ ?_ _ | (simp; done) | (simp; omega) | refine kept_trans ?_ (by assumption))), hD.out.congr (fun i hi => by simp [over])⟩
    case round =>
      obtain ⟨k, hk, rfl, hb, hrow⟩ := hrel
      clear hmk hD
      by_cases hlt : k < n
      · obtain ⟨hs0, hs1, hs2, hs3⟩ := gccells (hr.kept hb) hlt
        clear hr
        go_wp2_with fail
        refine (l_toFare (a k) (b k) (c k) (d k) _).mono ?_
        rintro e w1 ⟨rfl, hb1⟩
        have hrow1 := hrow.of_block (w' := w1) (hb1.block _ hrow.lt)
        have hd0 := hrow1.cell (i := k * 4) (by omega)
        have hf0 := hrow1.frozen (k * 4)
        have hd1 := hrow1.cell (i := k * 4 + 1) (by omega)
        have hf1 := hrow1.frozen (k * 4 + 1)
        have hd2 := hrow1.cell (i := k * 4 + 2) (by omega)
        have hf2 := hrow1.frozen (k * 4 + 2)
        have hd3 := hrow1.cell (i := k * 4 + 3) (by omega)
        have hf3 := hrow1.frozen (k * 4 + 3)
        have R1 := over_set (u := .string (a k)) hrow1 (gc0 a b c d k).symm
        have R2 := over_set (u := .int .i64 (b k)) R1 (gc1 a b c d k).symm
        have R3 := over_set (u := .int .i64 (c k)) R2 (gc2 a b c d k).symm
        have R4 := Lib.hid (over_set (u := .int .i64 (d k)) R3 (gc3 a b c d k).symm)
        have B2 : Hid (Below W.heap.size W ((((w1.setCell ⟨W.heap.size, k * 4, none⟩ (.string (a k))).setCell ⟨W.heap.size, k * 4 + 1, none⟩ (.int .i64 (b k))).setCell ⟨W.heap.size, k * 4 + 2, none⟩ (.int .i64 (c k))).setCell ⟨W.heap.size, k * 4 + 3, none⟩ (.int .i64 (d k)))) := (kept_set (kept_set (kept_set (kept_set (kept_trans hb hb1) (Nat.le_refl _) _) (Nat.le_refl _) _) (Nat.le_refl _) _) (Nat.le_refl _) _)
        clear R1 R2 R3 hrow hrow1
        go_wp2
        go_roundw
        case rel => exact ⟨k + 1, by omega, by go_num, B2.out, by rw [show (k + 1) * 4 = k * 4 + 1 + 1 + 1 + 1 by omega]; exact R4.out⟩
        case measure => simp [intOf]; omega
      · go_wp2
        go_ret
        exact ⟨rfl, hb, hrow.congr (fun i hi => by simp [over, show i < k * 4 by omega])⟩

theorem toFareS_sl (v : Value) (n : Nat) (a : Nat → ByteArray) (b c d : Nat → Int) (W : World) (h : Sl W v 4 n (gc a b c d)) (hle : (n : Int) ≤ 1048576) :
    Calls Try.prog 9 #[v] W fun e W' => e = .returned (.slice (some ⟨W.heap.size, 0, none⟩) n n) ∧ Below W.heap.size W W' ∧ Sl W' (.slice (some ⟨W.heap.size, 0, none⟩) n n) 4 n (gc a b c d) ∧ Mine W' (.slice (some ⟨W.heap.size, 0, none⟩) n n) 4 n :=
  (toFareS_any v n a b c d W h hle).mono fun _ _ ⟨he, hb, hr⟩ => ⟨he, hb, Sl.of_row h.1 (Row.of_rowIs hr), Mine.of_row h.1 hr (Nat.le_refl _)⟩

theorem eqFareS_any (va vb : Value) (n : Nat) (a : Nat → ByteArray) (b c d : Nat → Int) (W : World) (ha : Sl W va 4 n (gc a b c d)) (hb : Sl W vb 4 n (gc a b c d)) :
    Calls Try.prog 12 #[va, vb] W fun e W' => e = .returned (.bool true) ∧ Below W.heap.size W W' := by
  obtain ⟨hn, ao, cap, rfl, ha⟩ := ha
  obtain ⟨-, bo, cap', rfl, hb⟩ := hb
  rcases ha with h0 | ⟨g, off, rfl, hr⟩
  · have h0' : n ≤ 0 := by omega
    clear h0
    go_enter Try.func12, Try.ntmps12
    go_wp2
    refine wp_loop_rounds 1 ?_
    rw [rounds_succ]
    go_wp2
    go_ret
    exact ⟨rfl, (by repeat (first | assumption | exact Below.refl _ _ | refine kept_drew ?_ | refine kept_drewN ?_ _ | refine kept_alloc ?_ _ | refine kept_set ?_ ?_ _ | (simp; done) | (simp; omega) | refine kept_trans ?_ (by assumption)))⟩
  · rcases hb with h0 | ⟨g', off', rfl, hr'⟩
    · have h0' : n ≤ 0 := by omega
      clear h0
      go_enter Try.func12, Try.ntmps12
      go_wp2
      refine wp_loop_rounds 1 ?_
      rw [rounds_succ]
      go_wp2
      go_ret
      exact ⟨rfl, (by repeat (first | assumption | exact Below.refl _ _ | refine kept_drew ?_ | refine kept_drewN ?_ _ | refine kept_alloc ?_ _ | refine kept_set ?_ ?_ _ | (simp; done) | (simp; omega) | refine kept_trans ?_ (by assumption)))⟩
    · go_enter Try.func12, Try.ntmps12
      go_wp2
      go_loopw [5] (fun i wr => ∃ k : Nat, k ≤ n ∧ i = .int .i64 k ∧ Below W.heap.size W wr) (fun i _ => n - (intOf i).toNat)
      case atStart => exact ⟨0, Nat.zero_le _, rfl, (by repeat (first | assumption | exact Below.refl _ _ | refine kept_drew ?_ | refine kept_drewN ?_ _ | refine kept_alloc ?_ _ | refine kept_set ?_ ?_ _ | (simp; done) | (simp; omega) | refine kept_trans ?_ (by assumption)))⟩
      case round =>
        obtain ⟨k, hk, rfl, hb⟩ := hrel
        by_cases hlt : k < n
        · obtain ⟨hs0, hs1, hs2, hs3⟩ := gccells (hr.kept hb) hlt
          obtain ⟨ht0, ht1, ht2, ht3⟩ := gccells (hr'.kept hb) hlt
          clear hr hr'
          have k0 := cell_regrown hs0
          have k1 := cell_regrown hs1
          have k2 := cell_regrown hs2
          have k3 := cell_regrown hs3
          have k4 := cell_regrown ht0
          have k5 := cell_regrown ht1
          have k6 := cell_regrown ht2
          have k7 := cell_regrown ht3
          go_wp2_with fail
          refine wp_region_quiet_below (by kernel_rfl) (by kernel_rfl) ?_
          repeat (go_big_quiet_step ((first | (go_at_call 38; exact Calls.regrown_of (l_eqFare _ _ _ _ _)))))
          refine wpQuiet_nil ?_
          intro w2 hw2
          have hk := below_of_regrown hw2
          clear hw2 k0 k1 k2 k3 k4 k5 k6 k7
          obtain ⟨hc, hf⟩ := bcell hk
          have hz := hk.size
          try simp at hz
          go_wp2_with fail
          go_roundw
          case rel => exact ⟨k + 1, by omega, by go_num, (by repeat (first | assumption | exact Below.refl _ _ | refine kept_drew ?_ | refine kept_drewN ?_ _ | refine kept_alloc ?_ _ | refine kept_set ?_ ?_ _ | (simp; done) | (simp; omega) | refine kept_trans ?_ (by assumption)))⟩
          case measure => simp [intOf]; omega
        · go_wp2
          go_ret
          exact ⟨rfl, hb⟩

section
open Go.ChangeShapes Go.WideShapes
variable {H : Type} {enc : TypeId × Value → H} {W : World} {base : Nat}
theorem open_fares {v : Value} {d : DataW H} {p : List MemPlace} (hv : Value.okWide Try.prog W .any base 22 v) (h : DataW.Trod enc Try.prog W 0 (fun _ => true) true 22 v d p) (hlt : ∀ x ∈ p, x.block < W.heap.size) (hw : ∀ n ∈ d.weights Try.prog 22, n ≤ reachBytes) :
    ∃ n a b c d, Sl W v 4 n (gc a b c d) ∧ Hid (∀ i, i < n → ((a i).size : Int) ≤ 9223372036854775807) := by
  obtain ⟨n, f, hs, he⟩ := open_sl Try.underlying22 (k := 4) (by kernel_rfl) (by omega) (of_decide_eq_true (by kernel_rfl)) hv h hlt hw
  have key : ∀ i, i < n → (∃ q, f (i * 4) = .string q ∧ q.size ≤ maxLen) ∧ (∃ q, f (i * 4 + 1) = .int .i64 q) ∧ (∃ q, f (i * 4 + 2) = .int .i64 q) ∧ (∃ q, f (i * 4 + 3) = .int .i64 q) := by
    intro i hi
    obtain ⟨m, y, hy⟩ := he i hi
    obtain ⟨xs, n', hn', hy', hlen, hyl, hf⟩ := DataW.trod_struct Try.underlying52 hy
    have h0 := hf 0 _ rfl
    have h1 := hf 1 _ rfl
    have h2 := hf 2 _ rfl
    have h3 := hf 3 _ rfl
    have hx : xs.length = 4 := hyl
    rw [List.getElem?_eq_getElem (by omega)] at h0 h1 h2 h3
    have o1 : Try.prog.cellsOf 2 = 1 := by kernel_rfl
    have o2 : Try.prog.cellsOf 9 = 1 := by kernel_rfl
    simp [o1, o2, List.range, List.range.loop] at h0 h1 h2 h3
    obtain ⟨q0, e0, -, l0⟩ := DataW.trod_string Try.underlying9 h0
    obtain ⟨q1, e1, -, -⟩ := DataW.trod_int Try.underlying2 h1
    obtain ⟨q2, e2, -, -⟩ := DataW.trod_int Try.underlying2 h2
    obtain ⟨q3, e3, -, -⟩ := DataW.trod_int Try.underlying2 h3
    simp at e0 e1 e2 e3
    exact ⟨⟨q0, e0, l0⟩, ⟨q1, e1⟩, ⟨q2, e2⟩, ⟨q3, e3⟩⟩
  refine ⟨n, fun i => vtxt (f (i * 4)), fun i => vnum (f (i * 4 + 1)), fun i => vnum (f (i * 4 + 2)), fun i => vnum (f (i * 4 + 3)), hs.congr (fun i hi => ?_), fun i hi => ?_⟩
  · have hk := key (i / 4) (by omega)
    have hm : i % 4 < 4 := Nat.mod_lt _ (by omega)
    have hd : i / 4 * 4 + i % 4 = i := by omega
    obtain ⟨⟨q0, e0, -⟩, ⟨q1, e1⟩, ⟨q2, e2⟩, ⟨q3, e3⟩⟩ := hk
    rcases (show i % 4 = 0 ∨ i % 4 = 1 ∨ i % 4 = 2 ∨ i % 4 = 3 by omega) with hm0 | hm1 | hm2 | hm3
    · have e0' : f i = .string q0 := by rw [← e0]; congr 1; omega
      rw [e0', show i = i / 4 * 4 by omega]
      rw [gc0]
      simp only [e0, vtxt]
    · have e1' : f i = .int .i64 q1 := by rw [← e1]; congr 1; omega
      rw [e1', show i = i / 4 * 4 + 1 by omega]
      rw [gc1]
      simp only [e1, vnum]
    · have e2' : f i = .int .i64 q2 := by rw [← e2]; congr 1; omega
      rw [e2', show i = i / 4 * 4 + 2 by omega]
      rw [gc2]
      simp only [e2, vnum]
    · have e3' : f i = .int .i64 q3 := by rw [← e3]; congr 1; omega
      rw [e3', show i = i / 4 * 4 + 3 by omega]
      rw [gc3]
      simp only [e3, vnum]
  · obtain ⟨⟨q0, e0, l0⟩, -⟩ := key i hi
    show ((vtxt (f (i * 4))).size : Int) ≤ _
    rw [e0]
    unfold maxLen at l0
    show ((q0.size : Nat) : Int) ≤ _
    omega
end

end Go.Proofs.Ytdecdlaopoglbaa
