/- The cheapest fare for trips that follow each other: the reference. -/
import Derived.Test.YtjmklkhdemolmaaGreatDoorCheapP
import Derived.Test.YtjmklkhdemolmaaGreatDoorFared
import Derived.IntWalk
namespace Go.Proofs.YtjmklkhdemolmaaGreatDoor
open Go.RowKit Go.Deep
set_option linter.unusedVariables false
set_option maxRecDepth 100000

def pkI : Option Nat → Int
  | none => -1
  | some j => j
/-- The fares are as they have to be, the trips too. -/
def FB (n : Nat) (b c d : Nat → Int) : Prop := ∀ j, j < n → (0 ≤ b j ∧ b j ≤ 100000) ∧ (1 ≤ c j ∧ c j ≤ 1000) ∧ (1 ≤ d j ∧ d j ≤ 400)
theorem fitF_a {z r d : Nat → Int} {i q j : Nat} (h : ¬ (q : Int) ≤ r j) : fitF z r d i (i + q) j = false := by
  unfold fitF; rw [show decide (((i + q : Nat) : Int) - i ≤ r j) = false by simp; omega]; rfl
theorem fitF_b {z r d : Nat → Int} {i q j : Nat} (hq : 1 ≤ q) (h : ¬ z (i + (q - 1)) - z i < d j) : fitF z r d i (i + q) j = false := by
  unfold fitF; rw [show i + q - 1 = i + (q - 1) by omega, show decide (z (i + (q - 1)) - z i < d j) = false by simp; omega]; simp
theorem fitF_c {z r d : Nat → Int} {i q j : Nat} (hq : 1 ≤ q) (h1 : (q : Int) ≤ r j) (h : z (i + (q - 1)) - z i < d j) : fitF z r d i (i + q) j = true := by
  unfold fitF; rw [show i + q - 1 = i + (q - 1) by omega, show decide (z (i + (q - 1)) - z i < d j) = true by simp; omega, show decide (((i + q : Nat) : Int) - i ≤ r j) = true by simp; omega]; rfl
/-- What a round at fare j meets. -/
theorem pk_round (z c r d : Nat → Int) (i q j : Nat) (hq : 1 ≤ q) :
    (¬ (q : Int) ≤ r j ∧ Hid (pkF z c r d i (i + q) (j + 1) = pkF z c r d i (i + q) j)) ∨
    ((q : Int) ≤ r j ∧ ¬ z (i + (q - 1)) - z i < d j ∧ Hid (pkF z c r d i (i + q) (j + 1) = pkF z c r d i (i + q) j)) ∨
    ((q : Int) ≤ r j ∧ z (i + (q - 1)) - z i < d j ∧ Hid (pkF z c r d i (i + q) j = none) ∧ Hid (pkF z c r d i (i + q) (j + 1) = some j)) ∨
    (∃ p, p < j ∧ (q : Int) ≤ r j ∧ z (i + (q - 1)) - z i < d j ∧ Hid (pkF z c r d i (i + q) j = some p) ∧ c j < c p ∧ Hid (pkF z c r d i (i + q) (j + 1) = some j)) ∨
    (∃ p, p < j ∧ (q : Int) ≤ r j ∧ z (i + (q - 1)) - z i < d j ∧ Hid (pkF z c r d i (i + q) j = some p) ∧ c p ≤ c j ∧ Hid (pkF z c r d i (i + q) (j + 1) = some p)) := by
  by_cases h1 : (q : Int) ≤ r j
  · by_cases h2 : z (i + (q - 1)) - z i < d j
    · have hf := fitF_c hq h1 h2
      cases hp : pkF z c r d i (i + q) j with
      | none => exact .inr (.inr (.inl ⟨h1, h2, rfl, pkF_none hp hf⟩))
      | some p =>
        by_cases hc : c j < c p
        · exact .inr (.inr (.inr (.inl ⟨p, pkF_lt hp, h1, h2, rfl, hc, pkF_less hp hf hc⟩)))
        · exact .inr (.inr (.inr (.inr ⟨p, pkF_lt hp, h1, h2, rfl, by omega, pkF_more hp hf (by omega)⟩)))
    · exact .inr (.inl ⟨h1, h2, pkF_not (fitF_b hq h2)⟩)
  · exact .inl ⟨h1, pkF_not (fitF_a h1)⟩

set_option maxHeartbeats 1600000 in
theorem s_l18Part (v : Value) (n : Nat) (a : Nat → ByteArray) (b c d : Nat → Int) (u : Value) (z : Nat → Int) (i q : Nat) (W : World) (hs : Sl W v 4 n (gc a b c d)) (hu : Sl W u 1 q (ic fun j => z (i + j))) (hq : 1 ≤ q ∧ q ≤ 40) (hn : n ≤ 8) (HB : Hid (FB n b c d)) (HZ : Hid (∀ j, i ≤ j → j < i + q → 0 ≤ z j ∧ z j ≤ 36524)) :
    Calls Tryz.prog 22 #[v, u] W fun e W' => e = .returned (.int .i64 (pkI (pkF z b c d i (i + q) n))) ∧ Below W.heap.size W W' := by
  obtain ⟨-, ao, cap, rfl, hr⟩ := hs
  obtain ⟨-, ao2, cap2, rfl, hr2⟩ := hu
  obtain ⟨hq1, hq2⟩ := hq
  have HR := Lib.hid (pk_round z b c d i q · hq1)
  have HZ0 : Hid (pkF z b c d i (i + q) 0 = none) := by show _ = _; unfold pkF; rfl
  rcases hr2 with h0 | ⟨g2, off2, rfl, hr2⟩
  · omega
  have hz1 := HZ.out i (by omega) (by omega)
  have hz2 := HZ.out (i + (q - 1)) (by omega) (by omega)
  have T0 := hr2.cell (i := 0) (by omega)
  have T1 := hr2.cell (i := q - 1) (by omega)
  simp only [ic, Nat.add_zero] at T0 T1
  have HT0 := Lib.hid T0
  have HT1 := Lib.hid T1
  clear hr2 T0 T1
  have HBd : Hid (∀ j, j < n → (1 ≤ c j ∧ c j ≤ 1000) ∧ (1 ≤ d j ∧ d j ≤ 400)) := fun j hj => ⟨(HB.out j hj).2.1, (HB.out j hj).2.2⟩
  generalize z i = zi at *
  generalize z (i + (q - 1)) = zl at *
  generalize pkF z b c d i (i + q) = pk at *
  rcases hr with h0 | ⟨g, off, rfl, hr⟩
  · obtain rfl : n = 0 := h0
    have h0' : (0 : Nat) ≤ 0 := Nat.le_refl _
    go_enter Tryz.func22, Tryz.ntmps22
    go_wp2
    refine wp_loop_rounds 1 ?_
    rw [rounds_succ]
    go_wp2
    go_ret
    exact ⟨by rw [HZ0.out]; rfl, Below.refl _ _⟩
  · go_enter Tryz.func22, Tryz.ntmps22
    go_wp2
    go_loopw [5, 6] (fun p i wr => ∃ j : Nat, j ≤ n ∧ i = .int .i64 j ∧ p = .int .i64 (pkI (pk j)) ∧ Below W.heap.size W wr) (fun _ i _ => n - (intOf i).toNat)
    case atStart => exact ⟨0, Nat.zero_le _, rfl, by rw [HZ0.out]; rfl, Below.refl _ _⟩
    case round =>
      obtain ⟨j, hj, rfl, rfl, hb⟩ := hrel
      by_cases hlt : j < n
      · obtain ⟨-, s1, s2, s3⟩ := gccells (hr.kept hb) hlt
        have t0 := cell_keep hb HT0.out
        have t1 := cell_keep hb HT1.out
        have HRr := Lib.hid (hr.kept hb)
        obtain ⟨⟨c1, c2⟩, d1, d2⟩ := HBd.out j hlt
        have e1 : IntKind.i64.wrap (zl - zi) = zl - zi := IntWalk.i64_in _ (by omega)
        clear hr
        rcases HR.out j with ⟨h1, hp⟩ | ⟨h1, h2, hp⟩ | ⟨h1, h2, hp0, hp⟩ | ⟨p, hpj, h1, h2, hp0, h3, hp⟩ | ⟨p, hpj, h1, h2, hp0, h3, hp⟩
        · have hd1 : decide ((q : Int) ≤ c j) = false := by simp; omega
          have hv : Hid (pkI (pk (j + 1)) = pkI (pk j)) := by show _ = _; rw [hp.out]
          generalize pkI (pk j) = pv at *
          clear hp h1 t0 t1 e1
          go_wp2_with fail
          go_quiet (fail)
          go_wp2_with fail
          go_quiet (fail)
          go_wp2_with fail
          go_roundw
          case rel => exact ⟨j + 1, by omega, by go_num, by rw [hv.out], (by repeat (first | assumption | exact Below.refl _ _ | refine kept_drew ?_ | refine kept_drewN ?_ _ | refine kept_alloc ?_ _ | refine kept_set ?_ ?_ _ | (simp; done) | (simp; omega) | refine kept_trans ?_ (by assumption)))⟩
          case measure => simp [intOf]; omega
        · have hd1 : decide ((q : Int) ≤ c j) = true := by simp; omega
          have hd2 : decide (zl - zi < d j) = false := by simp; omega
          have hv : Hid (pkI (pk (j + 1)) = pkI (pk j)) := by show _ = _; rw [hp.out]
          generalize pkI (pk j) = pv at *
          clear hp h1 h2
          go_wp2_with fail
          go_quiet (fail)
          clear e1 t0 t1
          go_wp2_with fail
          go_quiet (fail)
          go_wp2_with fail
          go_roundw
          case rel => exact ⟨j + 1, by omega, by go_num, by rw [hv.out], (by repeat (first | assumption | exact Below.refl _ _ | refine kept_drew ?_ | refine kept_drewN ?_ _ | refine kept_alloc ?_ _ | refine kept_set ?_ ?_ _ | (simp; done) | (simp; omega) | refine kept_trans ?_ (by assumption)))⟩
          case measure => simp [intOf]; omega
        · have hd1 : decide ((q : Int) ≤ c j) = true := by simp; omega
          have hd2 : decide (zl - zi < d j) = true := by simp; omega
          have hv : Hid (pkI (pk (j + 1)) = (j : Int)) := by show _ = _; rw [hp.out]; rfl
          have e0 : pkI (pk j) = -1 := by rw [hp0.out]; rfl
          rw [e0]
          clear hp h1 h2 e0
          go_wp2_with fail
          go_quiet (fail)
          clear e1 t0 t1
          go_wp2_with fail
          go_quiet (fail)
          go_wp2_with fail
          go_roundw
          case rel => exact ⟨j + 1, by omega, by go_num, by rw [hv.out], (by repeat (first | assumption | exact Below.refl _ _ | refine kept_drew ?_ | refine kept_drewN ?_ _ | refine kept_alloc ?_ _ | refine kept_set ?_ ?_ _ | (simp; done) | (simp; omega) | refine kept_trans ?_ (by assumption)))⟩
          case measure => simp [intOf]; omega
        · obtain ⟨-, r1, -, -⟩ := gccells HRr.out (show p < n by omega)
          have hd1 : decide ((q : Int) ≤ c j) = true := by simp; omega
          have hd2 : decide (zl - zi < d j) = true := by simp; omega
          have hd3 : decide (b j < b p) = true := by simp; omega
          have hd4 : decide ((p : Int) < 0) = false := by simp
          have hv : Hid (pkI (pk (j + 1)) = (j : Int)) := by show _ = _; rw [hp.out]; rfl
          have e0 : pkI (pk j) = (p : Int) := by rw [hp0.out]; rfl
          rw [e0]
          clear hp h1 h2 e0
          go_wp2_with fail
          go_quiet (fail)
          clear e1 t0 t1
          go_wp2_with fail
          go_quiet (fail)
          go_wp2_with fail
          go_roundw
          case rel => exact ⟨j + 1, by omega, by go_num, by rw [hv.out], (by repeat (first | assumption | exact Below.refl _ _ | refine kept_drew ?_ | refine kept_drewN ?_ _ | refine kept_alloc ?_ _ | refine kept_set ?_ ?_ _ | (simp; done) | (simp; omega) | refine kept_trans ?_ (by assumption)))⟩
          case measure => simp [intOf]; omega
        · obtain ⟨-, r1, -, -⟩ := gccells HRr.out (show p < n by omega)
          have hd1 : decide ((q : Int) ≤ c j) = true := by simp; omega
          have hd2 : decide (zl - zi < d j) = true := by simp; omega
          have hd3 : decide (b j < b p) = false := by simp; omega
          have hd4 : decide ((p : Int) < 0) = false := by simp
          have hv : Hid (pkI (pk (j + 1)) = (p : Int)) := by show _ = _; rw [hp.out]; rfl
          have e0 : pkI (pk j) = (p : Int) := by rw [hp0.out]; rfl
          rw [e0]
          clear hp h1 h2 e0
          go_wp2_with fail
          go_quiet (fail)
          clear e1 t0 t1
          go_wp2_with fail
          go_quiet (fail)
          go_wp2_with fail
          go_roundw
          case rel => exact ⟨j + 1, by omega, by go_num, by rw [hv.out], (by repeat (first | assumption | exact Below.refl _ _ | refine kept_drew ?_ | refine kept_drewN ?_ _ | refine kept_alloc ?_ _ | refine kept_set ?_ ?_ _ | (simp; done) | (simp; omega) | refine kept_trans ?_ (by assumption)))⟩
          case measure => simp [intOf]; omega
      · obtain rfl : j = n := by omega
        go_wp2
        go_ret
        exact ⟨rfl, hb⟩

end Go.Proofs.YtjmklkhdemolmaaGreatDoor
