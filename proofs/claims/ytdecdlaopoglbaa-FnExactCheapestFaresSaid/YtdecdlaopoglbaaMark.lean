/- Marks of texts. -/
import Derived.Test.YtdecdlaopoglbaaInts
import Derived.Test.YtdecdlaopoglbaaStr
import Derived.Test.YtdecdlaopoglbaaAggs
import Derived.IntWalk
import Derived.Lib.SlBytesRow
import Derived.Deep.DeepCutAuto
import Derived.Deep.RegionHeld3
import Derived.Maps.AppendAt
namespace Go.Proofs.Ytdecdlaopoglbaa
open Go.RowKit Go.Deep
set_option linter.unusedVariables false
set_option maxRecDepth 100000

/-- The text of a number's last digit. -/
def dig (j : Nat) : ByteArray := ⟨#[UInt8.ofNat (48 + j % 10)]⟩
theorem dig_size (j : Nat) : (dig j).size = 1 := rfl
def dgs : Nat → Nat → ByteArray → ByteArray
  | 0, _, o => o
  | f + 1, k, o => if k = 0 then o else dgs f (k / 10) (dig k ++ o)

/-- The text of one digit, made from its byte. -/
theorem digit_text (w : World) (j : Nat) : (convert 86 9 (.slice (some ⟨w.heap.size, 0, none⟩) 1 1)).run Try.prog (w.alloc (.cells #[.int .u8 (48 + (j : Int) % 10)] 5)) = .ok (.string (dig j)) (w.alloc (.cells #[.int .u8 (48 + (j : Int) % 10)] 5)) := by
  refine Lib.run_convert_whole _ _ 5 _ Try.underlying86 Try.underlying5 Try.underlying9 w.heap.size 0 ⟨#[UInt8.ofNat (48 + j % 10)]⟩ ?_ 1
  intro i hi
  have h0 : i = 0 := by have : (⟨#[UInt8.ofNat (48 + j % 10)]⟩ : ByteArray).size = 1 := rfl; omega
  subst h0
  have hv : ((⟨#[UInt8.ofNat (48 + j % 10)]⟩ : ByteArray)[0].toNat : Int) = 48 + (j : Int) % 10 := by
    show (((UInt8.ofNat (48 + j % 10)).toNat : Nat) : Int) = 48 + (j : Int) % 10
    simp
    omega
  rw [hv]
  exact boxed_at rfl rfl

theorem dgs_zero (o : ByteArray) : dgs 0 0 o = o := rfl
theorem dgs_more : ∀ (f g k : Nat) (o : ByteArray), k ≤ f → k ≤ g → dgs f k o = dgs g k o
  | 0, 0, k, o, _, _ => rfl
  | 0, g + 1, k, o, h, _ => by
    have : k = 0 := by omega
    subst this
    simp [dgs]
  | f + 1, 0, k, o, _, h => by
    have : k = 0 := by omega
    subst this
    simp [dgs]
  | f + 1, g + 1, k, o, h1, h2 => by
    by_cases hk : k = 0
    · simp [dgs, hk]
    · simp only [dgs, if_neg hk]
      exact dgs_more f g (k / 10) _ (by omega) (by omega)
theorem dgs_step {j : Nat} (h : 0 < j) (o : ByteArray) : dgs (j / 10) (j / 10) (dig j ++ o) = dgs j j o := by
  obtain ⟨f, rfl⟩ : ∃ f, j = f + 1 := ⟨j - 1, by omega⟩
  conv => rhs; rw [dgs]
  rw [if_neg (by omega)]
  exact dgs_more _ _ _ _ (Nat.le_refl _) (by omega)
/-- The mark's text. -/
def mkT (k : Nat) : ByteArray := ⟨#[109]⟩ ++ dgs k k ⟨#[]⟩
theorem mkT_eq (k : Nat) : (⟨#[109]⟩ : ByteArray) ++ dgs k k ⟨#[]⟩ = mkT k := rfl
attribute [irreducible] dig dgs mkT

theorem l_markText (k : Nat) (W : World) (h0 : 1 ≤ k) (h : k ≤ 4611686018427387904) : Calls Try.prog 46 #[.int .i64 k] W fun e W' => e = .returned (.string (mkT k)) ∧ Below W.heap.size W W' := by
  rw [← mkT_eq]
  generalize hT : dgs k k ⟨#[]⟩ = T
  have HT := Lib.hid hT
  clear hT
  have DS : Hid (∀ (j : Nat) (h : 0 < j) (o : ByteArray), dgs (j / 10) (j / 10) (dig j ++ o) = dgs j j o) := fun j h o => dgs_step h o
  go_enter Try.func46, Try.ntmps46
  go_wp2
  go_loopw [0, 3] (fun i o wr => ∃ (j : Nat) (x : ByteArray), i = .int .i64 j ∧ o = .string x ∧ j + x.size ≤ k ∧ Hid (dgs j j x = T) ∧ Below W.heap.size W wr) (fun i _ _ => (intOf i).toNat)
  case atStart => exact ⟨k, ⟨#[]⟩, rfl, rfl, by show k + 0 ≤ k; omega, HT, (by repeat (first | assumption | exact Below.refl _ _ | refine kept_drew ?_ | refine kept_drewN ?_ _ | refine kept_alloc ?_ _ | refine kept_set ?_ ?_ _ | (simp; done) | (simp; omega) | refine kept_trans ?_ (by assumption)))⟩
  case round =>
    obtain ⟨j, x, rfl, rfl, hx, hd, hb⟩ := hrel
    by_cases hj : 0 < j
    · have kc := digit_text wr j
      have hsz := dig_size j
      have hxs : x.size ≤ 4611686018427387904 := by omega
      have HD := Lib.hid ((DS.out j hj x).trans hd.out)
      clear hd
      go_wp2
      go_roundw
      case rel => exact ⟨j / 10, _, by go_num, rfl, by rw [ByteArray.size_append, dig_size]; omega, HD, (by repeat (first | assumption | exact Below.refl _ _ | refine kept_drew ?_ | refine kept_drewN ?_ _ | refine kept_alloc ?_ _ | refine kept_set ?_ ?_ _ | (simp; done) | (simp; omega) | refine kept_trans ?_ (by assumption)))⟩
      case measure => simp [intOf]; omega
    · obtain rfl : j = 0 := by omega
      have hsz : (⟨#[109]⟩ : ByteArray).size = 1 := rfl
      have hxs : x.size ≤ 4611686018427387904 := by omega
      go_wp2
      go_ret
      exact ⟨by rw [← hd.out]; unfold dgs; rfl, (by repeat (first | assumption | exact Below.refl _ _ | refine kept_drew ?_ | refine kept_drewN ?_ _ | refine kept_alloc ?_ _ | refine kept_set ?_ ?_ _ | (simp; done) | (simp; omega) | refine kept_trans ?_ (by assumption)))⟩

theorem markText_int (q : Int) (W : World) (h0 : 1 ≤ q) (h : q ≤ 4611686018427387904) : Calls Try.prog 46 #[.int .i64 q] W fun e W' => e = .returned (.string (mkT q.toNat)) ∧ Below W.heap.size W W' := by
  obtain ⟨k, rfl⟩ : ∃ k : Nat, q = (k : Int) := ⟨q.toNat, by omega⟩
  exact l_markText k W (by omega) (by omega)

theorem rowIs_kept {w w' : World} {b n : Nat} {t : TypeId} {f : Nat → Value} (h : w.rowIs b t n f) (hb : Below w.heap.size w w') : w'.rowIs b t n f := h.of_block (hb.block _ h.lt)
theorem grown_kept {a b c : World} {row : Option Nat} (h : a.grownBy b row) (hb : Below b.heap.size b c) : a.grownBy c row := h.trans (grown_of_below hb row)

def sc (t : Nat → ByteArray) : Nat → Value := fun j => .string (t j)

theorem eqStringS_any (va vb : Value) (n : Nat) (z : Nat → ByteArray) (W : World) (ha : Sl W va 1 n (sc z)) (hb : Sl W vb 1 n (sc z)) :
    Calls Try.prog 17 #[va, vb] W fun e W' => e = .returned (.bool true) ∧ Below W.heap.size W W' := by
  obtain ⟨hn, ao, cap, rfl, ha⟩ := ha
  obtain ⟨-, bo, cap', rfl, hb⟩ := hb
  rcases ha with h0 | ⟨g, off, rfl, hr⟩
  · have h0' : n ≤ 0 := by omega
    clear h0
    go_enter Try.func17, Try.ntmps17
    go_wp2
    refine wp_loop_rounds 1 ?_
    rw [rounds_succ]
    go_wp2
    go_ret
    exact ⟨rfl, (by repeat (first | assumption | exact Below.refl _ _ | refine kept_drew ?_ | refine kept_drewN ?_ _ | refine kept_alloc ?_ _ | refine kept_set ?_ ?_ _ | (simp; done) | (simp; omega) | refine kept_trans ?_ (by assumption)))⟩
  · rcases hb with h0 | ⟨g', off', rfl, hr'⟩
    · have h0' : n ≤ 0 := by omega
      clear h0
      go_enter Try.func17, Try.ntmps17
      go_wp2
      refine wp_loop_rounds 1 ?_
      rw [rounds_succ]
      go_wp2
      go_ret
      exact ⟨rfl, (by repeat (first | assumption | exact Below.refl _ _ | refine kept_drew ?_ | refine kept_drewN ?_ _ | refine kept_alloc ?_ _ | refine kept_set ?_ ?_ _ | (simp; done) | (simp; omega) | refine kept_trans ?_ (by assumption)))⟩
    · go_enter Try.func17, Try.ntmps17
      go_wp2
      go_loopw [5] (fun i wr => ∃ k : Nat, k ≤ n ∧ i = .int .i64 k ∧ Below W.heap.size W wr) (fun i _ => n - (intOf i).toNat)
      case atStart => exact ⟨0, Nat.zero_le _, rfl, (by repeat (first | assumption | exact Below.refl _ _ | refine kept_drew ?_ | refine kept_drewN ?_ _ | refine kept_alloc ?_ _ | refine kept_set ?_ ?_ _ | (simp; done) | (simp; omega) | refine kept_trans ?_ (by assumption)))⟩
      case round =>
        obtain ⟨k, hk, rfl, hb⟩ := hrel
        by_cases hlt : k < n
        · have hs := (hr.kept hb).cell (i := k) (by omega)
          have hs' := (hr'.kept hb).cell (i := k) (by omega)
          simp only [sc] at hs hs'
          clear hr hr'
          go_wp2
          go_quiet (fail)
          go_wp2
          go_roundw
          case rel => exact ⟨k + 1, by omega, by go_num, (by repeat (first | assumption | exact Below.refl _ _ | refine kept_drew ?_ | refine kept_drewN ?_ _ | refine kept_alloc ?_ _ | refine kept_set ?_ ?_ _ | (simp; done) | (simp; omega) | refine kept_trans ?_ (by assumption)))⟩
          case measure => simp [intOf]; omega
        · go_wp2
          go_ret
          exact ⟨rfl, hb⟩

/-- The marks of texts. -/
def tmarks (q : Int) : Nat → Value := fun j => .string (mkT (q + j).toNat)
theorem markStringS_any (v : Value) (n : Nat) (q : Int) (W : World) (h : Mine W v 1 n) (hq : 1 ≤ q) (hq' : q ≤ 2305843009213693952) :
    Calls Try.prog 21 #[v, .int .i64 q] W fun e W' => e = .returned (.int .i64 (q + n)) ∧ W.grownBy W' v.ownBlock ∧ Sl W' v 1 n (tmarks q) ∧ Mine W' v 1 n := by
  obtain ⟨hn, ao, cap, rfl, h⟩ := h
  rcases h with h0 | ⟨g, t, N, F, rfl, hr, hN⟩
  · have h0' : n ≤ 0 := by omega
    clear h0
    go_enter Try.func21, Try.ntmps21
    go_wp2
    refine wp_loop_rounds 1 ?_
    rw [rounds_succ]
    go_wp2
    go_ret
    exact ⟨ret_int (by omega), World.grownBy.refl _ _, ⟨hn, _, _, rfl, .inl (by omega)⟩, ⟨hn, _, _, rfl, .inl (by omega)⟩⟩
  · go_enter Try.func21, Try.ntmps21
    go_wp2
    go_loopw [1, 5] (fun a i wr => ∃ k : Nat, k ≤ n ∧ i = .int .i64 k ∧ a = .int .i64 (q + k) ∧ W.grownBy wr (some g) ∧ wr.rowIs g t N (over k (tmarks q) F)) (fun _ i _ => n - (intOf i).toNat)
    case atStart => exact ⟨0, Nat.zero_le _, rfl, by simp, World.grownBy.refl _ _, hr.congr (fun i _ => by simp [over])⟩
    case round =>
      obtain ⟨k, hk, rfl, rfl, hg, hrow⟩ := hrel
      by_cases hlt : k < n
      · have HM := Lib.hid (fun w => markText_int (q + k) w (by omega) (by omega))
        have HR := Lib.hid hrow
        have HG := Lib.hid hg
        clear hrow hg hr
        go_wp2_with (go_at_call 46; refine (HM.out _).mono ?_; rintro e x1 ⟨rfl, hbx1⟩; have R0 := rowIs_kept HR.out hbx1; have hd0 := R0.cell (i := k) (by omega); have hf0 := R0.frozen k; have R1 := Lib.hid (over_set (u := .string (mkT (q + k).toNat)) R0 (by simp only [tmarks])); have B1 := Lib.hid (grown_set (grown_kept HG.out hbx1) k (.string (mkT (q + k).toNat))); clear R0)
        go_roundw
        case rel => exact ⟨k + 1, by omega, by go_num, congrArg (Value.int .i64) (by omega), B1.out, R1.out⟩
        case measure => simp [intOf]; omega
      · obtain rfl : k = n := by omega
        have hs : Hid (Sl wr (.slice (some ⟨g, 0, none⟩) k cap) 1 k (tmarks q)) := Sl.of_row hn ((Row.of_rowIs hrow).sub (a := 0) (m := k * 1) (by omega) |>.congr (fun i hi => by rw [Nat.zero_add, over_lt (by omega)]))
        have hm : Hid (Mine wr (.slice (some ⟨g, 0, none⟩) k cap) 1 k) := Mine.of_row hn hrow hN
        clear hr hrow
        go_wp2
        go_ret
        exact ⟨rfl, hg, hs.out, hm.out⟩

theorem heldStringS_any (v : Value) (n : Nat) (q : Int) (W : World) (h : Sl W v 1 n (tmarks q)) (hq : 1 ≤ q) (hq' : q ≤ 2305843009213693952) :
    Calls Try.prog 22 #[v, .int .i64 q] W fun e W' => e = .returned (.int .i64 (q + n)) ∧ Below W.heap.size W W' := by
  obtain ⟨hn, ao, cap, rfl, h⟩ := h
  rcases h with h0 | ⟨g, off, rfl, hr⟩
  · have h0' : n ≤ 0 := by omega
    clear h0
    go_enter Try.func22, Try.ntmps22
    go_wp2
    refine wp_loop_rounds 1 ?_
    rw [rounds_succ]
    go_wp2
    go_ret
    exact ⟨ret_int (by omega), (by repeat (first | assumption | exact Below.refl _ _ | refine kept_drew ?_ | refine kept_drewN ?_ _ | refine kept_alloc ?_ _ | refine kept_set ?_ ?_ _ | (simp; done) | (simp; omega) | refine kept_trans ?_ (by assumption)))⟩
  · go_enter Try.func22, Try.ntmps22
    go_wp2
    go_loopw [1, 5] (fun a i wr => ∃ k : Nat, k ≤ n ∧ i = .int .i64 k ∧ a = .int .i64 (q + k) ∧ Below W.heap.size W wr) (fun _ i _ => n - (intOf i).toNat)
    case atStart => exact ⟨0, Nat.zero_le _, rfl, by simp, (by repeat (first | assumption | exact Below.refl _ _ | refine kept_drew ?_ | refine kept_drewN ?_ _ | refine kept_alloc ?_ _ | refine kept_set ?_ ?_ _ | (simp; done) | (simp; omega) | refine kept_trans ?_ (by assumption)))⟩
    case round =>
      obtain ⟨k, hk, rfl, rfl, hb⟩ := hrel
      by_cases hlt : k < n
      · have hs0 := (hr.kept hb).cell (i := k) (by omega)
        simp only [tmarks] at hs0
        have HS := Lib.hid hs0
        have HM := Lib.hid (fun w => markText_int (q + k) w (by omega) (by omega))
        clear hr
        go_upto_region 4 with (fail)
        go_region_with (go_at_call 46; refine (HM.out _).mono ?_; rintro e x1 ⟨rfl, hbx1⟩; have p0 := cell_keep (w1 := x1) (by repeat (first | assumption | exact Below.refl _ _ | refine kept_drew ?_ | refine kept_trans ?_ (by assumption))) HS.out)
        all_goals
          go_wp2_with fail
          go_roundw
          case rel => exact ⟨k + 1, by omega, by go_num, congrArg (Value.int .i64) (by omega), (by repeat (first | assumption | exact Below.refl _ _ | refine kept_drew ?_ | refine kept_trans ?_ (by assumption)))⟩
          case measure => simp [intOf]; omega
      · go_wp2
        go_ret
        exact ⟨ret_int (by omega), (by repeat (first | assumption | exact Below.refl _ _ | refine kept_drew ?_ | refine kept_drewN ?_ _ | refine kept_alloc ?_ _ | refine kept_set ?_ ?_ _ | (simp; done) | (simp; omega) | refine kept_trans ?_ (by assumption)))⟩

end Go.Proofs.Ytdecdlaopoglbaa
