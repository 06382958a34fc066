/- Contracts on slices of structs with a text first: Ticket. -/
import Derived.Test.YtdecdlaopoglbaaName
import Derived.Test.YtdecdlaopoglbaaOpen
namespace Go.Proofs.Ytdecdlaopoglbaa
open Go.RowKit Go.Deep
set_option linter.unusedVariables false
set_option maxRecDepth 100000

/-- Elements of 3 cells, a text first. -/
def kc (a : Nat → ByteArray) (b c : Nat → Int) : Nat → Value := fun j => if j % 3 = 0 then .string (a (j / 3)) else .int .i64 (if j % 3 = 1 then b (j / 3) else c (j / 3))
theorem kc0 (a : Nat → ByteArray) (b c : Nat → Int) (e : Nat) : kc a b c (e * 3) = .string (a e) := by unfold kc; rw [if_pos (by omega), show (e * 3) / 3 = e by omega]
theorem kc1 (a : Nat → ByteArray) (b c : Nat → Int) (e : Nat) : kc a b c (e * 3 + 1) = .int .i64 (b e) := by unfold kc; rw [if_neg (by omega), if_pos (by omega), show (e * 3 + 1) / 3 = e by omega]
theorem kc2 (a : Nat → ByteArray) (b c : Nat → Int) (e : Nat) : kc a b c (e * 3 + 2) = .int .i64 (c e) := by unfold kc; rw [if_neg (by omega), if_neg (by omega), show (e * 3 + 2) / 3 = e by omega]
theorem kccells {w : World} {g off n : Nat} {a : Nat → ByteArray} {b c : Nat → Int} (h : Row w g off (n * 3) (kc a b c)) {e : Nat} (he : e < n) :
    w.cell? ⟨g, off + e * 3, none⟩ = some (.string (a e)) ∧ w.cell? ⟨g, off + e * 3 + 1, none⟩ = some (.int .i64 (b e)) ∧ w.cell? ⟨g, off + e * 3 + 2, none⟩ = some (.int .i64 (c e)) := by
  refine ⟨?_, ?_, ?_⟩
  · rw [h.cell (i := e * 3) (by omega), kc0]
  · have := h.cell (i := e * 3 + 1) (by omega)
    rw [kc1] at this
    exact this
  · have := h.cell (i := e * 3 + 2) (by omega)
    rw [kc2] at this
    exact this

theorem at_getD3 {C : Array Value} {i : Nat} (h : i < C.size) : C[i]? = some ((C[i]?).getD undef) := by rw [Array.getElem?_eq_getElem h]; rfl

theorem infoTicket : (Try.prog.info? 58).map (fun i => (i.zero, i.size, i.bytes)) = some (some (.agg #[.string ⟨#[]⟩, .int .i64 0, .int .i64 0]), 3, 32) := by kernel_rfl

theorem sz_TicketS (v : Value) (n : Nat) (a : Nat → ByteArray) (b c : Nat → Int) (left : Int) (W : World) (hs : Sl W v 3 n (kc a b c)) (h : 0 ≤ left ∧ left ≤ 1048576) (hx : Hid (∀ i, i < n → ((a i).size : Int) ≤ 9223372036854775807)) :
    Calls Try.prog 7 #[v, .int .i64 left] W fun e W' => ∃ r, e = .returned (.int .i64 r) ∧ (-1 ≤ r ∧ r ≤ left) ∧ Hid (0 ≤ r → (n : Int) ≤ left ∧ ∀ i, i < n → ((a i).size : Int) ≤ 1048576) ∧ Below W.heap.size W W' := by
  obtain ⟨h0, h1⟩ := h
  obtain ⟨hn, ao, cap, rfl, hr⟩ := hs
  have hn' : (n : Int) ≤ 17592186044416 := by omega
  rcases (show left < n ∨ (n : Int) ≤ left by omega) with hl | hl
  · clear hr
    go_enter Try.func7, Try.ntmps7
    go_wp2
    go_ret
    exact ⟨_, rfl, by omega, fun h => by omega, (by repeat (first | assumption | exact Below.refl _ _ | refine kept_drew ?_ | refine kept_drewN ?_ _ | refine kept_alloc ?_ _ | refine kept_set ?_ ?_ _ | (simp; done) | (simp; omega) | refine kept_trans ?_ (by assumption)))⟩
  · rcases hr with h0n | ⟨g, off, rfl, hr⟩
    · have hl2 : ¬ left - (n : Int) < 0 := by omega
      have h0' : n ≤ 0 := by omega
      go_enter Try.func7, Try.ntmps7
      go_wp2
      refine wp_loop_rounds 1 ?_
      rw [rounds_succ]
      go_wp2
      go_ret
      exact ⟨_, rfl, by omega, fun _ => ⟨hl, fun i hi => by omega⟩, (by repeat (first | assumption | exact Below.refl _ _ | refine kept_drew ?_ | refine kept_drewN ?_ _ | refine kept_alloc ?_ _ | refine kept_set ?_ ?_ _ | (simp; done) | (simp; omega) | refine kept_trans ?_ (by assumption)))⟩
    · have hl2 : ¬ left - (n : Int) < 0 := by omega
      go_enter Try.func7, Try.ntmps7
      go_wp2
      go_loopw [1, 5] (fun l i wr => ∃ (j : Nat) (L : Int), j ≤ n ∧ i = .int .i64 j ∧ l = .int .i64 L ∧ (0 ≤ L ∧ L ≤ left) ∧ Hid (∀ i, i < j → ((a i).size : Int) ≤ 1048576) ∧ Below W.heap.size W wr) (fun _ i _ => n - (intOf i).toNat)
      case atStart => exact ⟨0, _, Nat.zero_le _, rfl, rfl, by omega, fun i hi => absurd hi (by omega), (by repeat (first | assumption | exact Below.refl _ _ | refine kept_drew ?_ | refine kept_drewN ?_ _ | refine kept_alloc ?_ _ | refine kept_set ?_ ?_ _ | (simp; done) | (simp; omega) | refine kept_trans ?_ (by assumption)))⟩
      case round =>
        obtain ⟨j, L, hj, rfl, rfl, ⟨hL0, hL1⟩, hno, hb⟩ := hrel
        by_cases hlt : j < n
        · obtain ⟨hs0, hs1, hs2⟩ := kccells (hr.kept hb) hlt
          have hsz := hx.out j hlt
          clear hr
          go_wp2_with fail
          refine (sz_Ticket (a j) (b j) (c j) _ _ (by omega) hsz).mono ?_
          rintro e w1 ⟨r, rfl, ⟨hr0, hr1⟩, hq, hb1⟩
          rcases (show r < 0 ∨ 0 ≤ r by omega) with hr2 | hr2
          · go_wp2_with fail
            go_ret
            exact ⟨_, rfl, by omega, fun h => absurd h (by omega), kept_trans hb hb1⟩
          · have hq' := hq.out hr2
            have HN : Hid (∀ i, i < j + 1 → ((a i).size : Int) ≤ 1048576) := fun i hi => by
              by_cases e : i = j
              · rw [e]; omega
              · exact hno.out i (by omega)
            go_wp2_with fail
            go_roundw
            case rel => exact ⟨j + 1, r, by omega, by go_num, rfl, by omega, HN, kept_trans hb hb1⟩
            case measure => simp [intOf]; omega
        · obtain rfl : j = n := by omega
          go_wp2
          go_ret
          exact ⟨_, rfl, by omega, fun _ => ⟨hl, hno.out⟩, hb⟩

theorem toTicketS_any (v : Value) (n : Nat) (a : Nat → ByteArray) (b c : Nat → Int) (W : World) (h : Sl W v 3 n (kc a b c)) (hle : (n : Int) ≤ 1048576) :
    Calls Try.prog 10 #[v] W fun e W' => e = .returned (.slice (some ⟨W.heap.size, 0, none⟩) n n) ∧ Below W.heap.size W W' ∧ W'.rowIs W.heap.size 58 (n * 3) (kc a b c) := by
  obtain ⟨hn, ao, cap, rfl, h⟩ := h
  obtain ⟨i0, hi, hz0, hz1, hz2⟩ := info_parts infoTicket
  have hmk : ∀ w : World, (Instr.makeSlice 30 (.int .i64 (n : Int)) (.int .i64 (n : Int))).run Try.prog w = .ok (.slice (some ⟨w.heap.size, 0, none⟩) n n) (w.alloc (.cells (madeCells #[.string ⟨#[]⟩, .int .i64 0, .int .i64 0] (n * 3)) 58)) := by
    intro w
    have hr := run_make (P := Try.prog) w 30 58 i0 _ Try.underlying30 hi hz0 .i64 .i64 n n (by omega) (Int.le_refl _) (by rw [hz2]; omega) (by omega)
    rw [hz1] at hr
    simp only [Int.toNat_natCast] at hr
    exact hr
  have hmade : ∀ w : World, ∃ D, (w.alloc (.cells (madeCells #[.string ⟨#[]⟩, .int .i64 0, .int .i64 0] (n * 3)) 58)).rowIs w.heap.size 58 (n * 3) D := fun w =>
    ⟨fun i => ((madeCells #[.string ⟨#[]⟩, .int .i64 0, .int .i64 0] (n * 3))[i]?).getD undef, _, blk_alloc_new _ _, size_madeCells _ _, fun i hi => at_getD3 (by rw [size_madeCells]; exact hi)⟩
  clear hi hz0 hz1 hz2
  rcases h with h0 | ⟨g, off, rfl, hr⟩
  · have h0' : n ≤ 0 := by omega
    clear h0
    have hmade := Lib.hid hmade
    go_enter Try.func10, Try.ntmps10
    go_wp2
    refine wp_loop_rounds 1 ?_
    rw [rounds_succ]
    go_wp2
    go_ret
    exact ⟨rfl, (by repeat (first | assumption | exact Below.refl _ _ | refine kept_drew ?_ | refine kept_drewN ?_ _ | refine kept_alloc ?_ _ | refine kept_set ?_ ?_ _ | (simp; done) | (simp; omega) | refine kept_trans ?_ (by assumption))), ((hmade.out W).choose_spec).congr (fun i hi => by omega)⟩
  · obtain ⟨D, hD⟩ := hmade W
    have hD := Lib.hid hD
    clear hmade
    go_enter Try.func10, Try.ntmps10
    go_wp2
    go_loopw [4] (fun i wr => ∃ k : Nat, k ≤ n ∧ i = .int .i64 k ∧ Below W.heap.size W wr ∧ wr.rowIs W.heap.size 58 (n * 3) (over (k * 3) (kc a b c) D)) (fun i _ => n - (intOf i).toNat)
    case atStart => exact ⟨0, Nat.zero_le _, rfl, (by repeat (first | assumption | exact Below.refl _ _ | refine kept_drew ?_ | refine kept_drewN ?_ _ | refine kept_alloc ?_ _ | refine kept_set ?_ ?_ _ | (simp; done) | (simp; omega) | refine kept_trans ?_ (by assumption))), hD.out.congr (fun i hi => by simp [over])⟩
    case round =>
      obtain ⟨k, hk, rfl, hb, hrow⟩ := hrel
      clear hmk hD
      by_cases hlt : k < n
      · obtain ⟨hs0, hs1, hs2⟩ := kccells (hr.kept hb) hlt
        clear hr
        go_wp2_with fail
        refine (l_toTicket (a k) (b k) (c k) _).mono ?_
        rintro e w1 ⟨rfl, hb1⟩
        have hrow1 := hrow.of_block (w' := w1) (hb1.block _ hrow.lt)
        have hd0 := hrow1.cell (i := k * 3) (by omega)
        have hf0 := hrow1.frozen (k * 3)
        have hd1 := hrow1.cell (i := k * 3 + 1) (by omega)
        have hf1 := hrow1.frozen (k * 3 + 1)
        have hd2 := hrow1.cell (i := k * 3 + 2) (by omega)
        have hf2 := hrow1.frozen (k * 3 + 2)
        have R1 := over_set (u := .string (a k)) hrow1 (kc0 a b c k).symm
        have R2 := over_set (u := .int .i64 (b k)) R1 (kc1 a b c k).symm
        have R3 := Lib.hid (over_set (u := .int .i64 (c k)) R2 (kc2 a b c k).symm)
        have B2 : Hid (Below W.heap.size W (((w1.setCell ⟨W.heap.size, k * 3, none⟩ (.string (a k))).setCell ⟨W.heap.size, k * 3 + 1, none⟩ (.int .i64 (b k))).setCell ⟨W.heap.size, k * 3 + 2, none⟩ (.int .i64 (c k)))) := (kept_set (kept_set (kept_set (kept_trans hb hb1) (Nat.le_refl _) _) (Nat.le_refl _) _) (Nat.le_refl _) _)
        clear R1 R2 hrow hrow1
        go_wp2
        go_roundw
        case rel => exact ⟨k + 1, by omega, by go_num, B2.out, by rw [show (k + 1) * 3 = k * 3 + 1 + 1 + 1 by omega]; exact R3.out⟩
        case measure => simp [intOf]; omega
      · go_wp2
        go_ret
        exact ⟨rfl, hb, hrow.congr (fun i hi => by simp [over, show i < k * 3 by omega])⟩

theorem toTicketS_sl (v : Value) (n : Nat) (a : Nat → ByteArray) (b c : Nat → Int) (W : World) (h : Sl W v 3 n (kc a b c)) (hle : (n : Int) ≤ 1048576) :
    Calls Try.prog 10 #[v] W fun e W' => e = .returned (.slice (some ⟨W.heap.size, 0, none⟩) n n) ∧ Below W.heap.size W W' ∧ Sl W' (.slice (some ⟨W.heap.size, 0, none⟩) n n) 3 n (kc a b c) ∧ Mine W' (.slice (some ⟨W.heap.size, 0, none⟩) n n) 3 n :=
  (toTicketS_any v n a b c W h hle).mono fun _ _ ⟨he, hb, hr⟩ => ⟨he, hb, Sl.of_row h.1 (Row.of_rowIs hr), Mine.of_row h.1 hr (Nat.le_refl _)⟩

theorem eqTicketS_any (va vb : Value) (n : Nat) (a : Nat → ByteArray) (b c : Nat → Int) (W : World) (ha : Sl W va 3 n (kc a b c)) (hb : Sl W vb 3 n (kc a b c)) :
    Calls Try.prog 13 #[va, vb] W fun e W' => e = .returned (.bool true) ∧ Below W.heap.size W W' := by
  obtain ⟨hn, ao, cap, rfl, ha⟩ := ha
  obtain ⟨-, bo, cap', rfl, hb⟩ := hb
  rcases ha with h0 | ⟨g, off, rfl, hr⟩
  · have h0' : n ≤ 0 := by omega
    clear h0
    go_enter Try.func13, Try.ntmps13
    go_wp2
    refine wp_loop_rounds 1 ?_
    rw [rounds_succ]
    go_wp2
    go_ret
    exact ⟨rfl, (by repeat (first | assumption | exact Below.refl _ _ | refine kept_drew ?_ | refine kept_drewN ?_ _ | refine kept_alloc ?_ _ | refine kept_set ?_ ?_ _ | (simp; done) | (simp; omega) | refine kept_trans ?_ (by assumption)))⟩
  · rcases hb with h0 | ⟨g', off', rfl, hr'⟩
    · have h0' : n ≤ 0 := by omega
      clear h0
      go_enter Try.func13, Try.ntmps13
      go_wp2
      refine wp_loop_rounds 1 ?_
      rw [rounds_succ]
      go_wp2
      go_ret
      exact ⟨rfl, (by repeat (first | assumption | exact Below.refl _ _ | refine kept_drew ?_ | refine kept_drewN ?_ _ | refine kept_alloc ?_ _ | refine kept_set ?_ ?_ _ | (simp; done) | (simp; omega) | refine kept_trans ?_ (by assumption)))⟩
    · go_enter Try.func13, Try.ntmps13
      go_wp2
      go_loopw [5] (fun i wr => ∃ k : Nat, k ≤ n ∧ i = .int .i64 k ∧ Below W.heap.size W wr) (fun i _ => n - (intOf i).toNat)
      case atStart => exact ⟨0, Nat.zero_le _, rfl, (by repeat (first | assumption | exact Below.refl _ _ | refine kept_drew ?_ | refine kept_drewN ?_ _ | refine kept_alloc ?_ _ | refine kept_set ?_ ?_ _ | (simp; done) | (simp; omega) | refine kept_trans ?_ (by assumption)))⟩
      case round =>
        obtain ⟨k, hk, rfl, hb⟩ := hrel
        by_cases hlt : k < n
        · obtain ⟨hs0, hs1, hs2⟩ := kccells (hr.kept hb) hlt
          obtain ⟨ht0, ht1, ht2⟩ := kccells (hr'.kept hb) hlt
          clear hr hr'
          have k0 := cell_regrown hs0
          have k1 := cell_regrown hs1
          have k2 := cell_regrown hs2
          have k3 := cell_regrown ht0
          have k4 := cell_regrown ht1
          have k5 := cell_regrown ht2
          go_wp2_with fail
          refine wp_region_quiet_below (by kernel_rfl) (by kernel_rfl) ?_
          repeat (go_big_quiet_step ((first | (go_at_call 39; exact Calls.regrown_of (l_eqTicket _ _ _ _)))))
          refine wpQuiet_nil ?_
          intro w2 hw2
          have hk := below_of_regrown hw2
          clear hw2 k0 k1 k2 k3 k4 k5
          obtain ⟨hc, hf⟩ := bcell hk
          have hz := hk.size
          try simp at hz
          go_wp2_with fail
          go_roundw
          case rel => exact ⟨k + 1, by omega, by go_num, (by repeat (first | assumption | exact Below.refl _ _ | refine kept_drew ?_ | refine kept_drewN ?_ _ | refine kept_alloc ?_ _ | refine kept_set ?_ ?_ _ | (simp; done) | (simp; omega) | refine kept_trans ?_ (by assumption)))⟩
          case measure => simp [intOf]; omega
        · go_wp2
          go_ret
          exact ⟨rfl, hb⟩

section
open Go.ChangeShapes Go.WideShapes
variable {H : Type} {enc : TypeId × Value → H} {W : World} {base : Nat}
theorem open_tickets {v : Value} {d : DataW H} {p : List MemPlace} (hv : Value.okWide Try.prog W .any base 23 v) (h : DataW.Trod enc Try.prog W 0 (fun _ => true) true 23 v d p) (hlt : ∀ x ∈ p, x.block < W.heap.size) (hw : ∀ n ∈ d.weights Try.prog 23, n ≤ reachBytes) :
    ∃ n a b c, Sl W v 3 n (kc a b c) ∧ Hid (∀ i, i < n → ((a i).size : Int) ≤ 9223372036854775807) := by
  obtain ⟨n, f, hs, he⟩ := open_sl Try.underlying23 (k := 3) (by kernel_rfl) (by omega) (of_decide_eq_true (by kernel_rfl)) hv h hlt hw
  have key : ∀ i, i < n → (∃ q, f (i * 3) = .string q ∧ q.size ≤ maxLen) ∧ (∃ q, f (i * 3 + 1) = .int .i64 q) ∧ (∃ q, f (i * 3 + 2) = .int .i64 q) := by
    intro i hi
    obtain ⟨m, y, hy⟩ := he i hi
    obtain ⟨xs, n', hn', hy', hlen, hyl, hf⟩ := DataW.trod_struct Try.underlying55 hy
    have h0 := hf 0 _ rfl
    have h1 := hf 1 _ rfl
    have h2 := hf 2 _ rfl
    have hx : xs.length = 3 := hyl
    rw [List.getElem?_eq_getElem (by omega)] at h0 h1 h2
    have o1 : Try.prog.cellsOf 2 = 1 := by kernel_rfl
    have o2 : Try.prog.cellsOf 9 = 1 := by kernel_rfl
    simp [o1, o2, List.range, List.range.loop] at h0 h1 h2
    obtain ⟨q0, e0, -, l0⟩ := DataW.trod_string Try.underlying9 h0
    obtain ⟨q1, e1, -, -⟩ := DataW.trod_int Try.underlying2 h1
    obtain ⟨q2, e2, -, -⟩ := DataW.trod_int Try.underlying2 h2
    simp at e0 e1 e2
    exact ⟨⟨q0, e0, l0⟩, ⟨q1, e1⟩, ⟨q2, e2⟩⟩
  refine ⟨n, fun i => vtxt (f (i * 3)), fun i => vnum (f (i * 3 + 1)), fun i => vnum (f (i * 3 + 2)), hs.congr (fun i hi => ?_), fun i hi => ?_⟩
  · have hk := key (i / 3) (by omega)
    have hm : i % 3 < 3 := Nat.mod_lt _ (by omega)
    have hd : i / 3 * 3 + i % 3 = i := by omega
    obtain ⟨⟨q0, e0, -⟩, ⟨q1, e1⟩, ⟨q2, e2⟩⟩ := hk
    rcases (show i % 3 = 0 ∨ i % 3 = 1 ∨ i % 3 = 2 by omega) with hm0 | hm1 | hm2
    · have e0' : f i = .string q0 := by rw [← e0]; congr 1; omega
      rw [e0', show i = i / 3 * 3 by omega]
      rw [kc0]
      simp only [e0, vtxt]
    · have e1' : f i = .int .i64 q1 := by rw [← e1]; congr 1; omega
      rw [e1', show i = i / 3 * 3 + 1 by omega]
      rw [kc1]
      simp only [e1, vnum]
    · have e2' : f i = .int .i64 q2 := by rw [← e2]; congr 1; omega
      rw [e2', show i = i / 3 * 3 + 2 by omega]
      rw [kc2]
      simp only [e2, vnum]
  · obtain ⟨⟨q0, e0, l0⟩, -⟩ := key i hi
    show ((vtxt (f (i * 3))).size : Int) ≤ _
    rw [e0]
    unfold maxLen at l0
    show ((q0.size : Nat) : Int) ≤ _
    omega
end

end Go.Proofs.Ytdecdlaopoglbaa
