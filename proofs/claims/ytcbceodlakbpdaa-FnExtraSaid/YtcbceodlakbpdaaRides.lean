/- Contracts on rides and slices of rides. -/
import Derived.Test.YtcbceodlakbpdaaBase
import Derived.Test.YtcbceodlakbpdaaOpen
namespace Go.Proofs.Ytcbceodlakbpdaa
open Go.RowKit Go.Deep

/-- Rides as cells: leaves, takes. -/
def rc (lv tk : Nat → Int) : Nat → Value := fun j => .int .i64 (if j % 2 = 0 then lv (j / 2) else tk (j / 2))
theorem rc0 (lv tk : Nat → Int) (k : Nat) : rc lv tk (k * 2) = .int .i64 (lv k) := by unfold rc; rw [if_pos (by omega), show k * 2 / 2 = k by omega]
theorem rc1 (lv tk : Nat → Int) (k : Nat) : rc lv tk (k * 2 + 1) = .int .i64 (tk k) := by unfold rc; rw [if_neg (by omega), show (k * 2 + 1) / 2 = k by omega]
theorem rcells {w : World} {g off n : Nat} {lv tk : Nat → Int} (h : Row w g off (n * 2) (rc lv tk)) {k : Nat} (hk : k < n) :
    w.cell? ⟨g, off + k * 2, none⟩ = some (.int .i64 (lv k)) ∧ w.cell? ⟨g, off + k * 2 + 1, none⟩ = some (.int .i64 (tk k)) := by
  refine ⟨?_, ?_⟩
  · rw [h.cell (i := k * 2) (by omega), rc0]
  · have := h.cell (i := k * 2 + 1) (by omega)
    rw [rc1] at this
    exact this

theorem infoRide : (Try.prog.info? 48).map (fun i => (i.zero, i.size, i.bytes)) = some (some (.agg #[.int .i64 0, .int .i64 0]), 2, 16) := by kernel_rfl

theorem l_toRide (a b : Int) (W : World) : Calls Try.prog 34 #[.agg #[.int .i64 a, .int .i64 b]] W fun e W' => e = .returned (.agg #[.int .i64 a, .int .i64 b]) ∧ Below W.heap.size W W' := by
  go_enter Try.func34, Try.ntmps34
  go_wp2
  refine bodyPost_ret (v := .agg #[.int .i64 a, .int .i64 b]) (by simp [results, go_sem]) rfl ⟨rfl, (by repeat (first | assumption | exact Below.refl _ _ | refine kept_drew ?_ | refine kept_drewN ?_ _ | refine kept_alloc ?_ _ | refine kept_set ?_ ?_ _ | (simp; done) | (simp; omega) | refine kept_trans ?_ (by assumption)))⟩

theorem l_eqRide (a b : Int) (W : World) : Calls Try.prog 44 #[.agg #[.int .i64 a, .int .i64 b], .agg #[.int .i64 a, .int .i64 b]] W fun e W' => e = .returned (.bool true) ∧ Below W.heap.size W W' := by
  go_enter Try.func44, Try.ntmps44
  go_wp2
  go_ret
  exact ⟨rfl, (by repeat (first | assumption | exact Below.refl _ _ | refine kept_drew ?_ | refine kept_drewN ?_ _ | refine kept_alloc ?_ _ | refine kept_set ?_ ?_ _ | (simp; done) | (simp; omega) | refine kept_trans ?_ (by assumption)))⟩

theorem l_szRideS_no (ao : Option Addr) (n cap : Nat) (left : Int) (W : World) (h : 0 ≤ left ∧ left ≤ 1048576 ∧ (n : Int) ≤ 17592186044416 ∧ left < n) : Calls Try.prog 12 #[.slice ao n cap, .int .i64 left] W fun e W' => e = .returned (.int .i64 (-1)) ∧ W = W' := by
  obtain ⟨h0, h1, h2, h3⟩ := h
  go_enter Try.func12, Try.ntmps12
  go_wp2
  go_ret
  exact ⟨rfl, rfl⟩

theorem l_szRideS_yes (ao : Option Addr) (n cap : Nat) (left : Int) (W : World) (h : 0 ≤ left ∧ left ≤ 1048576 ∧ (n : Int) ≤ 17592186044416 ∧ n ≤ left) : Calls Try.prog 12 #[.slice ao n cap, .int .i64 left] W fun e W' => e = .returned (.int .i64 (left - n)) ∧ W = W' := by
  obtain ⟨h0, h1, h2, h3⟩ := h
  go_enter Try.func12, Try.ntmps12
  go_wp2
  go_ret
  exact ⟨rfl, rfl⟩

theorem toRideS_any (v : Value) (n : Nat) (lv tk : Nat → Int) (W : World) (h : Sl W v 2 n (rc lv tk)) :
    Calls Try.prog 14 #[v] W fun e W' => e = .returned (.slice (some ⟨W.heap.size, 0, none⟩) n n) ∧ Below W.heap.size W W' ∧ W'.rowIs W.heap.size 48 (n * 2) (rc lv tk) := by
  obtain ⟨hn, ao, cap, rfl, h⟩ := h
  obtain ⟨i0, hi, hz0, hz1, hz2⟩ := info_parts infoRide
  have hmk : ∀ w : World, (Instr.makeSlice 26 (.int .i64 (n : Int)) (.int .i64 (n : Int))).run Try.prog w = .ok (.slice (some ⟨w.heap.size, 0, none⟩) n n) (w.alloc (.cells (madeCells #[.int .i64 0, .int .i64 0] (n * 2)) 48)) := by
    intro w
    have hr := run_make (P := Try.prog) w 26 48 i0 _ Try.underlying26 hi hz0 .i64 .i64 n n (by omega) (Int.le_refl _) (by rw [hz2]; omega) (by omega)
    rw [hz1] at hr
    simp only [Int.toNat_natCast] at hr
    exact hr
  have hmade : ∀ w : World, (w.alloc (.cells (madeCells #[.int .i64 0, .int .i64 0] (n * 2)) 48)).rowIs w.heap.size 48 (n * 2) (fun _ => .int .i64 0) := fun w =>
    ⟨_, blk_alloc_new _ _, size_madeCells _ _, fun i hi => by
      have : i % 2 = 0 ∨ i % 2 = 1 := by omega
      rcases this with h | h <;> simp [madeCells, hi, h]⟩
  clear hi hz0 hz1 hz2
  rcases h with h0 | ⟨g, off, rfl, hr⟩
  · have h0' : n ≤ 0 := by omega
    clear h0
    have hmade := Lib.hid hmade
    go_enter Try.func14, Try.ntmps14
    go_wp2
    refine wp_loop_rounds 1 ?_
    rw [rounds_succ]
    go_wp2
    go_ret
    exact ⟨rfl, (by repeat (first | assumption | exact Below.refl _ _ | refine kept_drew ?_ | refine kept_drewN ?_ _ | refine kept_alloc ?_ _ | refine kept_set ?_ ?_ _ | (simp; done) | (simp; omega) | refine kept_trans ?_ (by assumption))), (hmade.out W).congr (fun i hi => by omega)⟩
  · have hmade := Lib.hid hmade
    go_enter Try.func14, Try.ntmps14
    go_wp2
    go_loopw [4] (fun i wr => ∃ k : Nat, k ≤ n ∧ i = .int .i64 k ∧ Below W.heap.size W wr ∧ wr.rowIs W.heap.size 48 (n * 2) (over (k * 2) (rc lv tk) (fun _ => .int .i64 0))) (fun i _ => n - (intOf i).toNat)
    case atStart => exact ⟨0, Nat.zero_le _, rfl, (by repeat (first | assumption | exact Below.refl _ _ | refine kept_drew ?_ | refine kept_drewN ?_ _ | refine kept_alloc ?_ _ | refine kept_set ?_ ?_ _ | (simp; done) | (simp; omega) | refine kept_trans ?_ (by assumption))), (hmade.out W).congr (fun i hi => by simp [over])⟩
    case round =>
      obtain ⟨k, hk, rfl, hb, hrow⟩ := hrel
      clear hmk hmade
      by_cases hlt : k < n
      · obtain ⟨hs0, hs1⟩ := rcells (hr.kept hb) hlt
        clear hr
        go_wp2_with fail
        refine (l_toRide _ _ _).mono ?_
        rintro e w1 ⟨rfl, hb1⟩
        have hrow1 := hrow.of_block (w' := w1) (hb1.block _ hrow.lt)
        have hd0 := hrow1.cell (i := k * 2) (by omega)
        have hd1 := hrow1.cell (i := k * 2 + 1) (by omega)
        have hf0 := hrow1.frozen (k * 2)
        have hf1 := hrow1.frozen (k * 2 + 1)
        have R1 := over_set (u := .int .i64 (lv k)) hrow1 (rc0 lv tk k).symm
        have R2 := Lib.hid (over_set (u := .int .i64 (tk k)) R1 (rc1 lv tk k).symm)
        have B2 : Hid (Below W.heap.size W ((w1.setCell ⟨W.heap.size, k * 2, none⟩ (.int .i64 (lv k))).setCell ⟨W.heap.size, k * 2 + 1, none⟩ (.int .i64 (tk k)))) := by
          refine kept_set (kept_set ?_ (Nat.le_refl _) _) (Nat.le_refl _) _
          exact kept_trans hb hb1
        clear R1 hrow hrow1
        go_wp2
        go_roundw
        case rel => exact ⟨k + 1, by omega, by go_num, B2.out, by rw [show (k + 1) * 2 = k * 2 + 1 + 1 by omega]; exact R2.out⟩
        case measure => simp [intOf]; omega
      · go_wp2
        go_ret
        exact ⟨rfl, hb, hrow.congr (fun i hi => by simp [over, show i < k * 2 by omega])⟩

theorem toRideS_sl (v : Value) (n : Nat) (lv tk : Nat → Int) (W : World) (h : Sl W v 2 n (rc lv tk)) :
    Calls Try.prog 14 #[v] W fun e W' => e = .returned (.slice (some ⟨W.heap.size, 0, none⟩) n n) ∧ Below W.heap.size W W' ∧ Sl W' (.slice (some ⟨W.heap.size, 0, none⟩) n n) 2 n (rc lv tk) ∧ Mine W' (.slice (some ⟨W.heap.size, 0, none⟩) n n) 2 n :=
  (toRideS_any v n lv tk W h).mono fun _ _ ⟨he, hb, hr⟩ => ⟨he, hb, Sl.of_row h.1 (Row.of_rowIs hr), Mine.of_row h.1 hr (Nat.le_refl _)⟩

theorem eqRideS_any (va vb : Value) (n : Nat) (lv tk : Nat → Int) (W : World) (ha : Sl W va 2 n (rc lv tk)) (hb : Sl W vb 2 n (rc lv tk)) :
    Calls Try.prog 16 #[va, vb] W fun e W' => e = .returned (.bool true) ∧ Below W.heap.size W W' := by
  obtain ⟨hn, ao, cap, rfl, ha⟩ := ha
  obtain ⟨-, bo, cap', rfl, hb⟩ := hb
  rcases ha with h0 | ⟨g, off, rfl, hr⟩
  · have h0' : n ≤ 0 := by omega
    clear h0
    go_enter Try.func16, Try.ntmps16
    go_wp2
    refine wp_loop_rounds 1 ?_
    rw [rounds_succ]
    go_wp2
    go_ret
    exact ⟨rfl, (by repeat (first | assumption | exact Below.refl _ _ | refine kept_drew ?_ | refine kept_drewN ?_ _ | refine kept_alloc ?_ _ | refine kept_set ?_ ?_ _ | (simp; done) | (simp; omega) | refine kept_trans ?_ (by assumption)))⟩
  · rcases hb with h0 | ⟨g', off', rfl, hr'⟩
    · have h0' : n ≤ 0 := by omega
      clear h0
      go_enter Try.func16, Try.ntmps16
      go_wp2
      refine wp_loop_rounds 1 ?_
      rw [rounds_succ]
      go_wp2
      go_ret
      exact ⟨rfl, (by repeat (first | assumption | exact Below.refl _ _ | refine kept_drew ?_ | refine kept_drewN ?_ _ | refine kept_alloc ?_ _ | refine kept_set ?_ ?_ _ | (simp; done) | (simp; omega) | refine kept_trans ?_ (by assumption)))⟩
    · go_enter Try.func16, Try.ntmps16
      go_wp2
      go_loopw [5] (fun i wr => ∃ k : Nat, k ≤ n ∧ i = .int .i64 k ∧ Below W.heap.size W wr) (fun i _ => n - (intOf i).toNat)
      case atStart => exact ⟨0, Nat.zero_le _, rfl, (by repeat (first | assumption | exact Below.refl _ _ | refine kept_drew ?_ | refine kept_drewN ?_ _ | refine kept_alloc ?_ _ | refine kept_set ?_ ?_ _ | (simp; done) | (simp; omega) | refine kept_trans ?_ (by assumption)))⟩
      case round =>
        obtain ⟨k, hk, rfl, hb⟩ := hrel
        by_cases hlt : k < n
        · obtain ⟨hs0, hs1⟩ := rcells (hr.kept hb) hlt
          obtain ⟨ht0, ht1⟩ := rcells (hr'.kept hb) hlt
          clear hr hr'
          have k0 := cell_regrown hs0
          have k1 := cell_regrown hs1
          have k2 := cell_regrown ht0
          have k3 := cell_regrown ht1
          go_wp2_with fail
          refine wp_region_quiet_below (by kernel_rfl) (by kernel_rfl) ?_
          repeat (go_big_quiet_step ((first | (go_at_call 44; exact Calls.regrown_of (l_eqRide _ _ _)))))
          refine wpQuiet_nil ?_
          intro w2 hw2
          have hk := below_of_regrown hw2
          clear hw2 k0 k1 k2 k3
          obtain ⟨hc, hf⟩ := bcell hk
          have hz := hk.size
          try simp at hz
          go_wp2_with fail
          go_roundw
          case rel => exact ⟨k + 1, by omega, by go_num, (by repeat (first | assumption | exact Below.refl _ _ | refine kept_drew ?_ | refine kept_drewN ?_ _ | refine kept_alloc ?_ _ | refine kept_set ?_ ?_ _ | (simp; done) | (simp; omega) | refine kept_trans ?_ (by assumption)))⟩
          case measure => simp [intOf]; omega
        · go_wp2
          go_ret
          exact ⟨rfl, hb⟩

theorem heldRideS_any (v : Value) (n : Nat) (q : Int) (W : World) (h : Sl W v 2 n (marks q)) (hq : 0 ≤ q) (hq' : q ≤ 4611686018427387904) :
    Calls Try.prog 36 #[v, .int .i64 q] W fun e W' => e = .returned (.int .i64 (q + 2 * n)) ∧ Below W.heap.size W W' := by
  obtain ⟨hn, ao, cap, rfl, h⟩ := h
  rcases h with h0 | ⟨g, off, rfl, hr⟩
  · have h0' : n ≤ 0 := by omega
    clear h0
    go_enter Try.func36, Try.ntmps36
    go_wp2
    refine wp_loop_rounds 1 ?_
    rw [rounds_succ]
    go_wp2
    go_ret
    exact ⟨ret_int (by omega), (by repeat (first | assumption | exact Below.refl _ _ | refine kept_drew ?_ | refine kept_drewN ?_ _ | refine kept_alloc ?_ _ | refine kept_set ?_ ?_ _ | (simp; done) | (simp; omega) | refine kept_trans ?_ (by assumption)))⟩
  · go_enter Try.func36, Try.ntmps36
    go_wp2
    go_loop [1, 5] (fun a i => ∃ k : Nat, k ≤ n ∧ i = .int .i64 k ∧ a = .int .i64 (q + 2 * k)) (fun _ i => n - (intOf i).toNat)
    case atStart => exact ⟨0, Nat.zero_le _, rfl, by simp⟩
    case round =>
      obtain ⟨k, hk, rfl, rfl⟩ := hrel
      by_cases hlt : k < n
      · have hs0 := hr.cell (i := k * 2) (by omega)
        have hs1 := hr.cell (i := k * 2 + 1) (by omega)
        simp only [marks] at hs0 hs1
        rw [show q + ((k * 2 : Nat) : Int) = q + 2 * k by omega] at hs0
        rw [show q + ((k * 2 + 1 : Nat) : Int) = q + 2 * k + 1 by omega] at hs1
        have hs1' : W.cell? ⟨g, off + k * 2 + 1, none⟩ = some (.int .i64 (q + 2 * k + 1)) := hs1
        clear hr hs1
        go_wp2
        go_round
        case rel => exact ⟨k + 1, by omega, by go_num, congrArg (Value.int .i64) (by omega)⟩
        case measure => simp [intOf]; omega
      · go_wp2
        go_ret
        exact ⟨ret_int (by omega), (by repeat (first | assumption | exact Below.refl _ _ | refine kept_drew ?_ | refine kept_drewN ?_ _ | refine kept_alloc ?_ _ | refine kept_set ?_ ?_ _ | (simp; done) | (simp; omega) | refine kept_trans ?_ (by assumption)))⟩

theorem markRideS_any (v : Value) (n : Nat) (q : Int) (W : World) (h : Mine W v 2 n) (hq : 0 ≤ q) (hq' : q ≤ 4611686018427387904) :
    Calls Try.prog 24 #[v, .int .i64 q] W fun e W' => e = .returned (.int .i64 (q + 2 * n)) ∧ W.grownBy W' v.ownBlock ∧ Sl W' v 2 n (marks q) ∧ Mine W' v 2 n := by
  obtain ⟨hn, ao, cap, rfl, h⟩ := h
  rcases h with h0 | ⟨g, t, N, F, rfl, hr, hN⟩
  · have h0' : n ≤ 0 := by omega
    clear h0
    go_enter Try.func24, Try.ntmps24
    go_wp2
    refine wp_loop_rounds 1 ?_
    rw [rounds_succ]
    go_wp2
    go_ret
    exact ⟨ret_int (by omega), World.grownBy.refl _ _, ⟨hn, _, _, rfl, .inl (by omega)⟩, ⟨hn, _, _, rfl, .inl (by omega)⟩⟩
  · go_enter Try.func24, Try.ntmps24
    go_wp2
    go_loopw [1, 5] (fun a i wr => ∃ k : Nat, k ≤ n ∧ i = .int .i64 k ∧ a = .int .i64 (q + 2 * k) ∧ W.grownBy wr (some g) ∧ wr.rowIs g t N (over (k * 2) (marks q) F)) (fun _ i _ => n - (intOf i).toNat)
    case atStart => exact ⟨0, Nat.zero_le _, rfl, by simp, World.grownBy.refl _ _, hr.congr (fun i _ => by simp [over])⟩
    case round =>
      obtain ⟨k, hk, rfl, rfl, hg, hrow⟩ := hrel
      by_cases hlt : k < n
      · have hd0 := hrow.cell (i := k * 2) (by omega)
        have hd1 := hrow.cell (i := k * 2 + 1) (by omega)
        have hf0 := hrow.frozen (k * 2)
        have hf1 := hrow.frozen (k * 2 + 1)
        have R1 := over_set (u := .int .i64 (q + 2 * k)) hrow (by simp only [marks]; congr 1; omega)
        have R2 := Lib.hid (over_set (u := .int .i64 (q + 2 * k + 1)) R1 (by simp only [marks]; congr 1; omega))
        have B2 := Lib.hid (grown_set (grown_set hg (k * 2) (.int .i64 (q + 2 * k))) (k * 2 + 1) (.int .i64 (q + 2 * k + 1)))
        clear R1 hrow hg hr
        go_wp2
        go_roundw
        case rel => exact ⟨k + 1, by omega, by go_num, congrArg (Value.int .i64) (by omega), B2.out, by rw [show (k + 1) * 2 = k * 2 + 1 + 1 by omega]; exact R2.out⟩
        case measure => simp [intOf]; omega
      · obtain rfl : k = n := by omega
        have hs : Hid (Sl wr (.slice (some ⟨g, 0, none⟩) k cap) 2 k (marks q)) := Sl.of_row hn ((Row.of_rowIs hrow).sub (a := 0) (m := k * 2) (by omega) |>.congr (fun i hi => by rw [Nat.zero_add, over_lt hi]))
        have hm : Hid (Mine wr (.slice (some ⟨g, 0, none⟩) k cap) 2 k) := Mine.of_row hn hrow hN
        clear hr hrow
        go_wp2
        go_ret
        exact ⟨rfl, hg, hs.out, hm.out⟩

section
open Go.ChangeShapes Go.WideShapes
variable {H : Type} {enc : TypeId × Value → H} {W : World} {base : Nat}
theorem open_rides {v : Value} {d : DataW H} {p : List MemPlace} (hv : Value.okWide Try.prog W .any base 22 v) (h : DataW.Trod enc Try.prog W 0 (fun _ => true) true 22 v d p) (hlt : ∀ x ∈ p, x.block < W.heap.size) (hw : ∀ n ∈ d.weights Try.prog 22, n ≤ reachBytes) :
    ∃ n lv tk, Sl W v 2 n (rc lv tk) ∧ True := by
  obtain ⟨n, f, hs, he⟩ := open_sl Try.underlying22 (k := 2) (by kernel_rfl) (by omega) (of_decide_eq_true (by kernel_rfl)) hv h hlt hw
  have key : ∀ i, i < n → (∃ q, f (i * 2) = .int .i64 q) ∧ (∃ q, f (i * 2 + 1) = .int .i64 q) := by
    intro i hi
    obtain ⟨m, y, hy⟩ := he i hi
    obtain ⟨xs, n', hn', hy', hlen, hyl, hf⟩ := DataW.trod_struct Try.underlying45 hy
    have h0 := hf 0 _ rfl
    have h1 := hf 1 _ rfl
    have hx : xs.length = 2 := hyl
    rw [List.getElem?_eq_getElem (by omega)] at h0 h1
    have o1 : Try.prog.cellsOf 2 = 1 := by kernel_rfl
    simp [o1, List.range, List.range.loop] at h0 h1
    obtain ⟨a, e0, -, -⟩ := DataW.trod_int Try.underlying2 h0
    obtain ⟨b, e1, -, -⟩ := DataW.trod_int Try.underlying2 h1
    simp at e0 e1
    exact ⟨⟨a, e0⟩, ⟨b, e1⟩⟩
  refine ⟨n, fun i => vnum (f (i * 2)), fun i => vnum (f (i * 2 + 1)), hs.congr (fun i hi => ?_), trivial⟩
  have hk := key (i / 2) (by omega)
  have : i % 2 = 0 ∨ i % 2 = 1 := by omega
  rcases this with h | h
  · obtain ⟨q, e⟩ := hk.1
    rw [show i / 2 * 2 = i by omega] at e
    simp only [rc, h, if_true, show i / 2 * 2 = i by omega, e, vnum]
  · obtain ⟨q, e⟩ := hk.2
    rw [show i / 2 * 2 + 1 = i by omega] at e
    simp only [rc, h, show ¬ (1 : Nat) = 0 by omega, if_false, show i / 2 * 2 + 1 = i by omega, e, vnum]
end

end Go.Proofs.Ytcbceodlakbpdaa
