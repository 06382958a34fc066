/- Contracts of the laws' helpers on []int64. -/
import Derived.Test.YtkloolhngddpiaaCore
import Derived.Test.YtkloolhngddpiaaPlain
import Derived.Deep.QuietTactic
import Derived.BigQuiet
namespace Go.Proofs.Ytkloolhngddpiaa
open Go.RowKit Go.Deep

theorem infoInt : (Try.prog.info? 2).map (fun i => (i.zero, i.size, i.bytes)) = some (some (.int .i64 0), 1, 8) := by kernel_rfl

/-- The integers z 0, z 1 .. as cells. -/
def ic (z : Nat → Int) : Nat → Value := fun j => .int .i64 (z j)
/-- A row that is filled up to k with f, and holds d behind that. -/
def upTo (k : Nat) (f : Nat → Value) (d : Value) : Nat → Value := fun j => if j < k then f j else d

theorem toInt64S_any (v : Value) (n : Nat) (z : Nat → Int) (W : World) (h : Sl W v 1 n (ic z)) :
    Calls Try.prog 22 #[v] W fun e W' => e = .returned (.slice (some ⟨W.heap.size, 0, none⟩) n n) ∧ Below W.heap.size W W' ∧ W'.rowIs W.heap.size 2 n (ic z) := by
  obtain ⟨hn, ao, cap, rfl, h⟩ := h
  have hmk := fun w => run_make_row' (P := Try.prog) 35 2 (.int .i64 0) 8 Try.underlying35 infoInt rfl .i64 .i64 n (by omega) (by omega) w
  rcases h with h0 | ⟨g, off, rfl, hr⟩
  · have h0' : n ≤ 0 := by omega
    clear h0
    go_enter Try.func22, Try.ntmps22
    go_wp2
    refine wp_loop_rounds 1 ?_
    rw [rounds_succ]
    go_wp2
    go_ret
    exact ⟨rfl, (by repeat (first | assumption | exact Below.refl _ _ | refine kept_drew ?_ | refine kept_drewN ?_ _ | refine kept_alloc ?_ _ | refine kept_set ?_ ?_ _ | (simp; done) | (simp; omega) | refine kept_trans ?_ (by assumption))), (World.rowIs_made W _ n 2).congr (fun i hi => by omega)⟩
  · go_enter Try.func22, Try.ntmps22
    go_wp2
    go_loopw [4] (fun i wr => ∃ k : Nat, k ≤ n ∧ i = .int .i64 k ∧ Below W.heap.size W wr ∧ wr.rowIs W.heap.size 2 n (upTo k (ic z) (.int .i64 0))) (fun i _ => n - (intOf i).toNat)
    case atStart => exact ⟨0, Nat.zero_le _, rfl, (by repeat (first | assumption | exact Below.refl _ _ | refine kept_drew ?_ | refine kept_drewN ?_ _ | refine kept_alloc ?_ _ | refine kept_set ?_ ?_ _ | (simp; done) | (simp; omega) | refine kept_trans ?_ (by assumption))), (World.rowIs_made W _ n 2).congr (fun i hi => by simp [upTo])⟩
    case round =>
      obtain ⟨k, hk, rfl, hb, hrow⟩ := hrel
      clear hmk
      by_cases hlt : k < n
      · have hs := (hr.kept hb).cell (i := k) (by omega)
        have hd := hrow.cell hlt
        have hf := hrow.frozen k
        have R : Hid (Below W.heap.size W (wr.setCell ⟨W.heap.size, k, none⟩ (.int .i64 (z k))) ∧ (wr.setCell ⟨W.heap.size, k, none⟩ (.int .i64 (z k))).rowIs W.heap.size 2 n (upTo (k + 1) (ic z) (.int .i64 0))) :=
          ⟨hb.setCell (Nat.le_refl _) _, (hrow.set k _).congr (fun i hi => by simp only [upTo, ic]; by_cases e : i = k <;> by_cases e2 : i < k <;> simp [e, e2] <;> omega)⟩
        simp only [ic] at hs
        clear hrow hb hr
        go_wp2
        go_roundw
        case rel => exact ⟨k + 1, by omega, by go_num, R.out.1, R.out.2⟩
        case measure => simp [intOf]; omega
      · go_wp2
        go_ret
        exact ⟨rfl, hb, hrow.congr (fun i hi => by simp [upTo, show i < k by omega])⟩

theorem toInt64S_sl (v : Value) (n : Nat) (z : Nat → Int) (W : World) (h : Sl W v 1 n (ic z)) :
    Calls Try.prog 22 #[v] W fun e W' => e = .returned (.slice (some ⟨W.heap.size, 0, none⟩) n n) ∧ Below W.heap.size W W' ∧ Sl W' (.slice (some ⟨W.heap.size, 0, none⟩) n n) 1 n (ic z) :=
  (toInt64S_any v n z W h).mono fun _ _ ⟨he, hb, hr⟩ => ⟨he, hb, Sl.of_row h.1 (by rw [Nat.mul_one]; exact Row.of_rowIs hr)⟩

theorem eqInt64S_any (va vb : Value) (n : Nat) (z : Nat → Int) (W : World) (ha : Sl W va 1 n (ic z)) (hb : Sl W vb 1 n (ic z)) :
    Calls Try.prog 25 #[va, vb] W fun e W' => e = .returned (.bool true) ∧ Below W.heap.size W W' := by
  obtain ⟨hn, ao, cap, rfl, ha⟩ := ha
  obtain ⟨-, bo, cap', rfl, hb⟩ := hb
  rcases ha with h0 | ⟨g, off, rfl, hr⟩
  · have h0' : n ≤ 0 := by omega
    clear h0
    go_enter Try.func25, Try.ntmps25
    go_wp2
    refine wp_loop_rounds 1 ?_
    rw [rounds_succ]
    go_wp2
    go_ret
    exact ⟨rfl, (by repeat (first | assumption | exact Below.refl _ _ | refine kept_drew ?_ | refine kept_drewN ?_ _ | refine kept_alloc ?_ _ | refine kept_set ?_ ?_ _ | (simp; done) | (simp; omega) | refine kept_trans ?_ (by assumption)))⟩
  · rcases hb with h0 | ⟨g', off', rfl, hr'⟩
    · have h0' : n ≤ 0 := by omega
      clear h0
      go_enter Try.func25, Try.ntmps25
      go_wp2
      refine wp_loop_rounds 1 ?_
      rw [rounds_succ]
      go_wp2
      go_ret
      exact ⟨rfl, (by repeat (first | assumption | exact Below.refl _ _ | refine kept_drew ?_ | refine kept_drewN ?_ _ | refine kept_alloc ?_ _ | refine kept_set ?_ ?_ _ | (simp; done) | (simp; omega) | refine kept_trans ?_ (by assumption)))⟩
    · go_enter Try.func25, Try.ntmps25
      go_wp2
      go_loopw [5] (fun i wr => ∃ k : Nat, k ≤ n ∧ i = .int .i64 k ∧ Below W.heap.size W wr) (fun i _ => n - (intOf i).toNat)
      case atStart => exact ⟨0, Nat.zero_le _, rfl, (by repeat (first | assumption | exact Below.refl _ _ | refine kept_drew ?_ | refine kept_drewN ?_ _ | refine kept_alloc ?_ _ | refine kept_set ?_ ?_ _ | (simp; done) | (simp; omega) | refine kept_trans ?_ (by assumption)))⟩
      case round =>
        obtain ⟨k, hk, rfl, hb⟩ := hrel
        by_cases hlt : k < n
        · have hs := (hr.kept hb).cell (i := k) (by omega)
          have hs' := (hr'.kept hb).cell (i := k) (by omega)
          simp only [ic] at hs hs'
          clear hr hr'
          go_wp2
          go_quiet (fail)
          go_wp2
          go_roundw
          case rel => exact ⟨k + 1, by omega, by go_num, (by repeat (first | assumption | exact Below.refl _ _ | refine kept_drew ?_ | refine kept_drewN ?_ _ | refine kept_alloc ?_ _ | refine kept_set ?_ ?_ _ | (simp; done) | (simp; omega) | refine kept_trans ?_ (by assumption)))⟩
          case measure => simp [intOf]; omega
        · go_wp2
          go_ret
          exact ⟨rfl, hb⟩

theorem heldInt64S_any (v : Value) (n : Nat) (q : Int) (W : World) (h : Sl W v 1 n (marks q)) (hq : 0 ≤ q) (hq' : q ≤ 4611686018427387904) :
    Calls Try.prog 33 #[v, .int .i64 q] W fun e W' => e = .returned (.int .i64 (q + n)) ∧ Below W.heap.size W W' := by
  obtain ⟨hn, ao, cap, rfl, h⟩ := h
  rcases h with h0 | ⟨g, off, rfl, hr⟩
  · have h0' : n ≤ 0 := by omega
    clear h0
    go_enter Try.func33, Try.ntmps33
    go_wp2
    refine wp_loop_rounds 1 ?_
    rw [rounds_succ]
    go_wp2
    go_ret
    exact ⟨ret_int (by omega), (by repeat (first | assumption | exact Below.refl _ _ | refine kept_drew ?_ | refine kept_drewN ?_ _ | refine kept_alloc ?_ _ | refine kept_set ?_ ?_ _ | (simp; done) | (simp; omega) | refine kept_trans ?_ (by assumption)))⟩
  · go_enter Try.func33, Try.ntmps33
    go_wp2
    go_loop [1, 5] (fun a i => ∃ k : Nat, k ≤ n ∧ i = .int .i64 k ∧ a = .int .i64 (q + k)) (fun _ i => n - (intOf i).toNat)
    case atStart => exact ⟨0, Nat.zero_le _, rfl, by simp⟩
    case round =>
      obtain ⟨k, hk, rfl, rfl⟩ := hrel
      by_cases hlt : k < n
      · have hs0 := hr.cell (i := k) (by omega)
        simp only [marks] at hs0
        clear hr
        go_wp2
        go_round
        case rel => exact ⟨k + 1, by omega, by go_num, congrArg (Value.int .i64) (by omega)⟩
        case measure => simp [intOf]; omega
      · go_wp2
        go_ret
        exact ⟨ret_int (by omega), (by repeat (first | assumption | exact Below.refl _ _ | refine kept_drew ?_ | refine kept_drewN ?_ _ | refine kept_alloc ?_ _ | refine kept_set ?_ ?_ _ | (simp; done) | (simp; omega) | refine kept_trans ?_ (by assumption)))⟩

theorem markInt64S_any (v : Value) (n : Nat) (q : Int) (W : World) (h : Mine W v 1 n) (hq : 0 ≤ q) (hq' : q ≤ 4611686018427387904) :
    Calls Try.prog 27 #[v, .int .i64 q] W fun e W' => e = .returned (.int .i64 (q + n)) ∧ W.grownBy W' v.ownBlock ∧ Sl W' v 1 n (marks q) ∧ Mine W' v 1 n := by
  obtain ⟨hn, ao, cap, rfl, h⟩ := h
  rcases h with h0 | ⟨g, t, N, F, rfl, hr, hN⟩
  · have h0' : n ≤ 0 := by omega
    clear h0
    go_enter Try.func27, Try.ntmps27
    go_wp2
    refine wp_loop_rounds 1 ?_
    rw [rounds_succ]
    go_wp2
    go_ret
    exact ⟨ret_int (by omega), World.grownBy.refl _ _, ⟨hn, _, _, rfl, .inl (by omega)⟩, ⟨hn, _, _, rfl, .inl (by omega)⟩⟩
  · go_enter Try.func27, Try.ntmps27
    go_wp2
    go_loopw [1, 5] (fun a i wr => ∃ k : Nat, k ≤ n ∧ i = .int .i64 k ∧ a = .int .i64 (q + k) ∧ W.grownBy wr (some g) ∧ wr.rowIs g t N (over k (marks q) F)) (fun _ i _ => n - (intOf i).toNat)
    case atStart => exact ⟨0, Nat.zero_le _, rfl, by simp, World.grownBy.refl _ _, hr.congr (fun i _ => by simp [over])⟩
    case round =>
      obtain ⟨k, hk, rfl, rfl, hg, hrow⟩ := hrel
      by_cases hlt : k < n
      · have hd0 := hrow.cell (i := k) (by omega)
        have hf0 := hrow.frozen k
        have R1 := Lib.hid (over_set (u := .int .i64 (q + k)) hrow (by simp only [marks]))
        have B1 := Lib.hid (grown_set hg k (.int .i64 (q + k)))
        clear hrow hg hr
        go_wp2
        go_roundw
        case rel => exact ⟨k + 1, by omega, by go_num, congrArg (Value.int .i64) (by omega), B1.out, R1.out⟩
        case measure => simp [intOf]; omega
      · obtain rfl : k = n := by omega
        have hs : Hid (Sl wr (.slice (some ⟨g, 0, none⟩) k cap) 1 k (marks q)) := Sl.of_row hn ((Row.of_rowIs hrow).sub (a := 0) (m := k * 1) (by omega) |>.congr (fun i hi => by rw [Nat.zero_add, over_lt (by omega)]))
        have hm : Hid (Mine wr (.slice (some ⟨g, 0, none⟩) k cap) 1 k) := Mine.of_row hn hrow hN
        clear hr hrow
        go_wp2
        go_ret
        exact ⟨rfl, hg, hs.out, hm.out⟩

end Go.Proofs.Ytkloolhngddpiaa
