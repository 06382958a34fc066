/- The cheapest fares: the reference. -/
import Derived.Test.YtjmklkhdemolmaaGreatDoorCheapQ
import Derived.StillTail
import Derived.IntWalk
import Derived.Deep.DeepMust
namespace Go.Proofs.YtjmklkhdemolmaaGreatDoor
open Go.RowKit Go.Deep
set_option linter.unusedVariables false
set_option maxRecDepth 100000

/-- The answer: the least cost, the fares' names, the code. -/
def ChAns (m : Nat) (a : Nat → ByteArray) (b c d : Nat → Int) (n : Nat) (z : Nat → Int) (r0 : Int) (M : List ByteArray) (r2 : Int) : Prop :=
  (vFares m a b c d = false ∧ r0 = 0 ∧ M = [] ∧ r2 = 1) ∨
  (vFares m a b c d = true ∧ trOk n z = false ∧ r0 = 0 ∧ M = [] ∧ r2 = 2) ∨
  (vFares m a b c d = true ∧ trOk n z = true ∧ m = 0 ∧ 0 < n ∧ r0 = 0 ∧ M = [] ∧ r2 = 3) ∨
  (vFares m a b c d = true ∧ trOk n z = true ∧ (0 < m ∨ n = 0) ∧ ∃ L P, Good z b c d m n L P ∧ r0 = L 0 ∧ M = idF a (fun i k => pkF z b c d i k m) P (endF P n) ∧ r2 = 0)
def ChPost (r0 : Int) (M : List ByteArray) (r2 : Int) (W : World) (e : Ending) (W' : World) : Prop :=
  ∃ g, e = .returned (.tuple #[.int .i64 r0, g, .int .i64 r2]) ∧ Below W.heap.size W W' ∧ Out W' W.heap.size 9 1 g M.length (sc (tl M))
theorem vFares_FB {m : Nat} {a : Nat → ByteArray} {b c d : Nat → Int} (h : vFares m a b c d = true) : m ≤ 8 ∧ FB m b c d := by
  refine ⟨(vFares_out h).1, fun j hj => ?_⟩
  have h1 := vFa_out ((vFares_out h).2 j hj)
  exact ⟨h1.2.1, h1.2.2.1, h1.2.2.2⟩
theorem infoStrC : (Tryz.prog.info? 9).map (fun i => (i.zero, i.size, i.bytes)) = some (some (.string ⟨#[]⟩), 1, 16) := by kernel_rfl
theorem Out.base_le' {w : World} {B B' k n : Nat} {e : TypeId} {v : Value} {f : Nat → Value} (h : Out w B' e k v n f) (hB : B ≤ B') : Out w B e k v n f :=
  ⟨h.1, h.2.imp id fun ⟨g, cap, cur, h1, h2, h3⟩ => ⟨g, cap, cur, h1, Nat.le_trans hB h2, h3⟩⟩
theorem infoGoInt : (Tryz.prog.info? 3).map (fun i => (i.zero, i.size, i.bytes)) = some (some (.int .i64 0), 1, 8) := by kernel_rfl
def upd (F : Nat → Int) (i : Nat) (x : Int) : Nat → Int := fun j => if j = i then x else F j
theorem upd_at (F : Nat → Int) (i : Nat) (x : Int) : upd F i x i = x := by simp [upd]
theorem upd_ne {F : Nat → Int} {i j : Nat} {x : Int} (h : j ≠ i) : upd F i x j = F j := by simp [upd, h]
theorem row_upd {w : World} {g n : Nat} {t : TypeId} {F : Nat → Int} (h : w.rowIs g t n (ic F)) (i : Nat) (x : Int) : (w.setCell ⟨g, i, none⟩ (.int .i64 x)).rowIs g t n (ic (upd F i x)) :=
  (h.set i (.int .i64 x)).congr fun j _ => by
    by_cases e : j = i
    · simp [ic, upd, e]
    · simp [ic, upd, e]
attribute [irreducible] upd
theorem row_other {w : World} {g g' n i : Nat} {t : TypeId} {f : Nat → Value} {u : Value} (h : w.rowIs g t n f) (hne : g ≠ g') : (w.setCell ⟨g', i, none⟩ u).rowIs g t n f :=
  h.of_block (Below.heap_setCell w ⟨g', i, none⟩ u g hne)
theorem row_kept {w w' : World} {g n : Nat} {t : TypeId} {f : Nat → Value} (h : w.rowIs g t n f) (hb : Below w.heap.size w w') : w'.rowIs g t n f := h.of_block (hb.block _ h.lt)
theorem region_tail_at {P : Program} {id : Nat} {Q : Exit → Act → World → Prop} {a : Act} {w : World} {l : List Oper} (n : Nat) (hm : P.follows .mixedOrders = true) (hB : Region.lexTailB .any l.toArray n = true) (w2 : World) (hw : w.drew = w2)
    (h : wpStill P l.toArray w2 (fun a' => wpList P l.toArray Q (l.drop n) a' w2) (l.take n) a) : (Code.region id l.toArray true).wp P Q a w := by
  subst hw
  exact wp_region_still_tail n hm hB h
theorem Found.best' {v : Nat → Option Int} {a b p : Nat} {l x : Int} (h : Found v a b l p) (hab : a < b) (hx : v (a + 1) = some x) : 0 ≤ l ∧ Best v a b l p := by
  rcases h with ⟨-, h⟩ | ⟨h0, h⟩
  · rw [h (a + 1) (by omega) (by omega)] at hx; cases hx
  · exact ⟨h0, h⟩
theorem row00 {w : World} {g n : Nat} {z : Nat → Int} (h : Row w g 0 n (ic z)) {i : Nat} (hi : i < n) : w.cell? ⟨g, i, none⟩ = some (.int .i64 (z i)) := by
  have := h.cell hi
  rw [Nat.zero_add] at this
  exact this
theorem row0 {w : World} {g o n : Nat} {z : Nat → Int} (h : Row w g o n (ic z)) {i : Nat} (hi : i < n) : w.cell? ⟨g, o + i, none⟩ = some (.int .i64 (z i)) := h.cell hi

set_option maxHeartbeats 3200000 in
theorem s_CheapestFares (v : Value) (m : Nat) (a : Nat → ByteArray) (b c d : Nat → Int) (g1 o n cq : Nat) (z : Nat → Int) (r0 : Int) (M : List ByteArray) (r2 : Int) (HA : ChAns m a b c d n z r0 M r2) (W : World) (hs : Sl W v 4 m (gc a b c d)) (hn : n ≤ 17592186044416) (hcq : n ≤ cq ∧ cq ≤ 9223372036854775807) (ht : Row W g1 o n (ic z)) (hx : Hid (∀ i, i < m → ((a i).size : Int) ≤ 1048576)) :
    Calls Tryz.prog 7 #[v, .slice (some ⟨g1, o, none⟩) n cq] W (ChPost r0 M r2 W) := by
  have HL := Lib.hid (s_listFare v m a b c d W hs hx)
  have HS := Lib.hid hs
  have HT := Lib.hid ht
  clear ht
  obtain ⟨hm, ao, cap, rfl, hr⟩ := hs
  have HR := Lib.hid hr
  clear hr
  have HD := Lib.hid (fun x w => s_l02Day x w)
  unfold ChPost
  rcases HA with ⟨hv, rfl, rfl, rfl⟩ | ⟨hv, htr, rfl, rfl, rfl⟩ | ⟨hv, htr, hm0, hn0, rfl, rfl, rfl⟩ | ⟨hv, htr, hmn, L, P, HG, rfl, rfl, rfl⟩
  · rw [hv] at HL
    clear hv
    go_enter Tryz.func7, Tryz.ntmps7
    go_wp2_with (go_at_call 20; refine HL.out.mono ?_; rintro e w1 ⟨rfl, hb1⟩)
    go_ret3
    exact ⟨_, rfl, hb1, Out.nil _ _ _ _ _⟩
  · rw [hv] at HL
    have htr := Lib.hid htr
    clear hv
    go_enter Tryz.func7, Tryz.ntmps7
    go_wp2_with (go_at_call 20; refine HL.out.mono ?_; rintro e w1 ⟨rfl, hb1⟩)
    go_loopw [8] (fun i wr => ∃ k : Nat, k ≤ n ∧ i = .int .i64 k ∧ Below W.heap.size W wr ∧ (k = 0 ∨ n ≤ 40) ∧ Hid (∀ i, i < k → tAt z i = true)) (fun i _ => n - (intOf i).toNat)
    case atStart => exact ⟨0, Nat.zero_le _, rfl, hb1, .inl rfl, fun i hi => absurd hi (by omega)⟩
    case round =>
      clear hb1 HL
      obtain ⟨k, hk, rfl, hb, hk40, hno⟩ := hrel
      by_cases hlt : k < n
      · have t0 := row0 (HT.out.kept hb) hlt
        have q1 : ∀ w, Calls Tryz.prog 21 #[.int .i64 (z k)] w fun e W' => e = .returned (.bool (inB (z k) 0 36524)) ∧ W' = w := fun w => (HD.out (z k) w).mono fun _ _ ⟨he, hw⟩ => ⟨he, hw.symm⟩
        by_cases h40 : n ≤ 40
        · have hd0 : decide ((40 : Int) < (n : Int)) = false := by simp; omega
          have hd0' : decide (40 < n) = false := by simp; omega
          clear hk40
          rcases tAt_cases z k with ⟨hi1, hp⟩ | ⟨hi1, hk0, hp⟩ | ⟨hi1, hk0, hc, hp⟩ | ⟨hi1, hk0, hc, hp⟩
          · rw [hi1] at q1
            go_wp2_with fail
            go_quiet ((go_at_call 21; exact Calls.quiet_of_same (q1 _)))
            clear q1
            go_wp2_with fail
            go_ret3
            exact ⟨_, rfl, (by repeat (first | assumption | exact Below.refl _ _ | refine kept_drew ?_ | refine kept_drewN ?_ _ | refine kept_alloc ?_ _ | refine kept_set ?_ ?_ _ | (simp; done) | (simp; omega) | refine kept_trans ?_ (by assumption))), Out.nil _ _ _ _ _⟩
          · have HN : Hid (∀ i, i < k + 1 → tAt z i = true) := fun i hi => by
              by_cases e : i = k
              · rw [e]; exact hp.out
              · exact hno.out i (by omega)
            rw [hi1] at q1
            have h0' : k ≤ 0 := by omega
            have hd : decide (0 < k) = false := by simp; omega
            clear hk0
            go_wp2_with fail
            go_quiet ((go_at_call 21; exact Calls.quiet_of_same (q1 _)))
            clear q1
            go_wp2_with fail
            clear hd0 hd0' hi1
            go_roundw
            case rel => exact ⟨k + 1, by omega, by go_num, (by repeat (first | assumption | exact Below.refl _ _ | refine kept_drew ?_ | refine kept_drewN ?_ _ | refine kept_alloc ?_ _ | refine kept_set ?_ ?_ _ | (simp; done) | (simp; omega) | refine kept_trans ?_ (by assumption))), .inr h40, HN⟩
            case measure => simp [intOf]; omega
          · have HN : Hid (∀ i, i < k + 1 → tAt z i = true) := fun i hi => by
              by_cases e : i = k
              · rw [e]; exact hp.out
              · exact hno.out i (by omega)
            rw [hi1] at q1
            have t1 := row0 (HT.out.kept hb) (i := k - 1) (by omega)
            have hd : decide (0 < k) = true := by simp; omega
            have hd3 : decide (z k < z (k - 1)) = false := by simp; omega
            go_wp2_with fail
            go_quiet ((go_at_call 21; exact Calls.quiet_of_same (q1 _)))
            clear q1
            go_wp2_with fail
            clear hd0 hd0' hi1
            go_roundw
            case rel => exact ⟨k + 1, by omega, by go_num, (by repeat (first | assumption | exact Below.refl _ _ | refine kept_drew ?_ | refine kept_drewN ?_ _ | refine kept_alloc ?_ _ | refine kept_set ?_ ?_ _ | (simp; done) | (simp; omega) | refine kept_trans ?_ (by assumption))), .inr h40, HN⟩
            case measure => simp [intOf]; omega
          · rw [hi1] at q1
            have t1 := row0 (HT.out.kept hb) (i := k - 1) (by omega)
            have hd : decide (0 < k) = true := by simp; omega
            have hd3 : decide (z k < z (k - 1)) = true := by simp; omega
            go_wp2_with fail
            go_quiet ((go_at_call 21; exact Calls.quiet_of_same (q1 _)))
            clear q1
            go_wp2_with fail
            go_ret3
            exact ⟨_, rfl, (by repeat (first | assumption | exact Below.refl _ _ | refine kept_drew ?_ | refine kept_drewN ?_ _ | refine kept_alloc ?_ _ | refine kept_set ?_ ?_ _ | (simp; done) | (simp; omega) | refine kept_trans ?_ (by assumption))), Out.nil _ _ _ _ _⟩
        · have hd0 : decide ((40 : Int) < (n : Int)) = true := by simp; omega
          have hd0' : decide (40 < n) = true := by simp; omega
          clear q1 hk40
          go_wp2_with fail
          go_quiet (fail)
          go_wp2_with fail
          go_ret3
          exact ⟨_, rfl, (by repeat (first | assumption | exact Below.refl _ _ | refine kept_drew ?_ | refine kept_drewN ?_ _ | refine kept_alloc ?_ _ | refine kept_set ?_ ?_ _ | (simp; done) | (simp; omega) | refine kept_trans ?_ (by assumption))), Out.nil _ _ _ _ _⟩
      · exfalso
        have h1 := trOk_yes (n := n) (z := z) (fun i hi => hno.out i (by omega))
        rw [htr.out] at h1
        have h2 : 40 < n := by
          have h3 := of_decide_eq_false h1.symm
          omega
        omega
  · rw [hv] at HL
    obtain ⟨h40, htA, hzb⟩ := trOk_out htr
    have HTA := Lib.hid htA
    clear htA hzb htr
    obtain rfl : m = 0 := hm0
    have hm0' : (0 : Nat) ≤ 0 := Nat.le_refl _
    clear hv
    go_enter Tryz.func7, Tryz.ntmps7
    go_wp2_with (go_at_call 20; refine HL.out.mono ?_; rintro e w1 ⟨rfl, hb1⟩)
    go_loopw [8] (fun i wr => ∃ k : Nat, k ≤ n ∧ i = .int .i64 k ∧ Below W.heap.size W wr ∧ (k = 0 ∨ n ≤ 40) ∧ Hid (∀ i, i < k → tAt z i = true)) (fun i _ => n - (intOf i).toNat)
    case atStart => exact ⟨0, Nat.zero_le _, rfl, hb1, .inl rfl, fun i hi => absurd hi (by omega)⟩
    case round =>
      clear hb1 HL
      obtain ⟨k, hk, rfl, hb, hk40, hno⟩ := hrel
      by_cases hlt : k < n
      · have t0 := row0 (HT.out.kept hb) hlt
        have q1 : ∀ w, Calls Tryz.prog 21 #[.int .i64 (z k)] w fun e W' => e = .returned (.bool (inB (z k) 0 36524)) ∧ W' = w := fun w => (HD.out (z k) w).mono fun _ _ ⟨he, hw⟩ => ⟨he, hw.symm⟩
        have hd0 : decide ((40 : Int) < (n : Int)) = false := by simp; omega
        have hd0' : decide (40 < n) = false := by simp; omega
        clear hk40
        rcases tAt_cases z k with ⟨hi1, hp⟩ | ⟨hi1, hk0, hp⟩ | ⟨hi1, hk0, hc, hp⟩ | ⟨hi1, hk0, hc, hp⟩
        · have := HTA.out k hlt; rw [hp.out] at this; cases this
        · have HN : Hid (∀ i, i < k + 1 → tAt z i = true) := fun i hi => by
            by_cases e : i = k
            · rw [e]; exact hp.out
            · exact hno.out i (by omega)
          rw [hi1] at q1
          have h0' : k ≤ 0 := by omega
          have hd : decide (0 < k) = false := by simp; omega
          clear hk0
          go_wp2_with fail
          go_quiet ((go_at_call 21; exact Calls.quiet_of_same (q1 _)))
          clear q1
          go_wp2_with fail
          clear hd0 hd0' hi1
          go_roundw
          case rel => exact ⟨k + 1, by omega, by go_num, (by repeat (first | assumption | exact Below.refl _ _ | refine kept_drew ?_ | refine kept_drewN ?_ _ | refine kept_alloc ?_ _ | refine kept_set ?_ ?_ _ | (simp; done) | (simp; omega) | refine kept_trans ?_ (by assumption))), .inr h40, HN⟩
          case measure => simp [intOf]; omega
        · have HN : Hid (∀ i, i < k + 1 → tAt z i = true) := fun i hi => by
            by_cases e : i = k
            · rw [e]; exact hp.out
            · exact hno.out i (by omega)
          rw [hi1] at q1
          have t1 := row0 (HT.out.kept hb) (i := k - 1) (by omega)
          have hd : decide (0 < k) = true := by simp; omega
          have hd3 : decide (z k < z (k - 1)) = false := by simp; omega
          go_wp2_with fail
          go_quiet ((go_at_call 21; exact Calls.quiet_of_same (q1 _)))
          clear q1
          go_wp2_with fail
          clear hd0 hd0' hi1
          go_roundw
          case rel => exact ⟨k + 1, by omega, by go_num, (by repeat (first | assumption | exact Below.refl _ _ | refine kept_drew ?_ | refine kept_drewN ?_ _ | refine kept_alloc ?_ _ | refine kept_set ?_ ?_ _ | (simp; done) | (simp; omega) | refine kept_trans ?_ (by assumption))), .inr h40, HN⟩
          case measure => simp [intOf]; omega
        · have := HTA.out k hlt; rw [hp.out] at this; cases this
      · clear hno hk40
        obtain rfl : k = n := by omega
        have hn0' : decide (0 < k) = true := by simp; omega
        go_wp2_with fail
        go_ret3
        exact ⟨_, rfl, hb, Out.nil _ _ _ _ _⟩
  · rw [hv] at HL
    obtain ⟨h40, htA, hzb⟩ := trOk_out htr
    have HTA := Lib.hid htA
    have HZ := Lib.hid hzb
    obtain ⟨hm8, hFB⟩ := vFares_FB hv
    have HFB := Lib.hid hFB
    have HBD := Lib.hid (HG.bd' hFB hmn h40)
    have HG := Lib.hid HG
    clear htA hzb htr hFB
    clear hv
    go_enter Tryz.func7, Tryz.ntmps7
    go_wp2_with (go_at_call 20; refine HL.out.mono ?_; rintro e w1 ⟨rfl, hb1⟩)
    go_loopw [8] (fun i wr => ∃ k : Nat, k ≤ n ∧ i = .int .i64 k ∧ Below W.heap.size W wr ∧ (k = 0 ∨ n ≤ 40) ∧ Hid (∀ i, i < k → tAt z i = true)) (fun i _ => n - (intOf i).toNat)
    case atStart => exact ⟨0, Nat.zero_le _, rfl, hb1, .inl rfl, fun i hi => absurd hi (by omega)⟩
    case round =>
      clear hb1 HL
      obtain ⟨k, hk, rfl, hb, hk40, hno⟩ := hrel
      by_cases hlt : k < n
      · have t0 := row0 (HT.out.kept hb) hlt
        have q1 : ∀ w, Calls Tryz.prog 21 #[.int .i64 (z k)] w fun e W' => e = .returned (.bool (inB (z k) 0 36524)) ∧ W' = w := fun w => (HD.out (z k) w).mono fun _ _ ⟨he, hw⟩ => ⟨he, hw.symm⟩
        have hd0 : decide ((40 : Int) < (n : Int)) = false := by simp; omega
        have hd0' : decide (40 < n) = false := by simp; omega
        clear hk40
        rcases tAt_cases z k with ⟨hi1, hp⟩ | ⟨hi1, hk0, hp⟩ | ⟨hi1, hk0, hc, hp⟩ | ⟨hi1, hk0, hc, hp⟩
        · have := HTA.out k hlt; rw [hp.out] at this; cases this
        · have HN : Hid (∀ i, i < k + 1 → tAt z i = true) := fun i hi => by
            by_cases e : i = k
            · rw [e]; exact hp.out
            · exact hno.out i (by omega)
          rw [hi1] at q1
          have h0' : k ≤ 0 := by omega
          have hd : decide (0 < k) = false := by simp; omega
          clear hk0
          go_wp2_with fail
          go_quiet ((go_at_call 21; exact Calls.quiet_of_same (q1 _)))
          clear q1
          go_wp2_with fail
          clear hd0 hd0' hi1
          go_roundw
          case rel => exact ⟨k + 1, by omega, by go_num, (by repeat (first | assumption | exact Below.refl _ _ | refine kept_drew ?_ | refine kept_drewN ?_ _ | refine kept_alloc ?_ _ | refine kept_set ?_ ?_ _ | (simp; done) | (simp; omega) | refine kept_trans ?_ (by assumption))), .inr h40, HN⟩
          case measure => simp [intOf]; omega
        · have HN : Hid (∀ i, i < k + 1 → tAt z i = true) := fun i hi => by
            by_cases e : i = k
            · rw [e]; exact hp.out
            · exact hno.out i (by omega)
          rw [hi1] at q1
          have t1 := row0 (HT.out.kept hb) (i := k - 1) (by omega)
          have hd : decide (0 < k) = true := by simp; omega
          have hd3 : decide (z k < z (k - 1)) = false := by simp; omega
          go_wp2_with fail
          go_quiet ((go_at_call 21; exact Calls.quiet_of_same (q1 _)))
          clear q1
          go_wp2_with fail
          clear hd0 hd0' hi1
          go_roundw
          case rel => exact ⟨k + 1, by omega, by go_num, (by repeat (first | assumption | exact Below.refl _ _ | refine kept_drew ?_ | refine kept_drewN ?_ _ | refine kept_alloc ?_ _ | refine kept_set ?_ ?_ _ | (simp; done) | (simp; omega) | refine kept_trans ?_ (by assumption))), .inr h40, HN⟩
          case measure => simp [intOf]; omega
        · have := HTA.out k hlt; rw [hp.out] at this; cases this
      · clear hno hk40
        obtain rfl : n = k := by omega
        have HPK : Hid (∀ i, i < n → ∃ j, pkF z b c d i (i + 1) m = some j) := fun i hi => pk_one HFB.out (by omega) i
        by_cases hn0 : 0 < n
        · have hg1 : decide ((m : Int) = 0) = false := by simp; omega
          have hg2 : ¬ m = 0 := by omega
          have hg3 : decide (0 < n) = true := by simp; omega
          have hg4 : ((m : Int) == 0) = false := by simp; omega
          clear hmn
          have hmkL := fun w : World => run_make_row' (P := Tryz.prog) 25 2 (.int .i64 0) 8 Tryz.underlying25 infoInt rfl .i64 .i64 (n + 1) (by omega) (by omega) w
          have hmkP := fun w : World => run_make_row' (P := Tryz.prog) 49 3 (.int .i64 0) 8 Tryz.underlying49 infoGoInt rfl .i64 .i64 (n + 1) (by omega) (by omega) w
          have ecast : ((n + 1 : Nat) : Int) = (n : Int) + 1 := by omega
          simp only [ecast] at hmkL hmkP
          clear ecast
          obtain ⟨B0, hB0⟩ : ∃ B0, wr.heap.size = B0 := ⟨_, rfl⟩
          have hWB : W.heap.size ≤ B0 := by rw [← hB0]; exact hb.size
          have rowL0 : ((wr.alloc (.cells (madeCells #[.int .i64 0] (n + 1)) 2)).alloc (.cells (madeCells #[.int .i64 0] (n + 1)) 3)).rowIs B0 2 (n + 1) (ic fun _ => 0) := by
            rw [← hB0]
            exact ((World.rowIs_made wr _ (n + 1) 2).of_block (heap_alloc_old _ _ (by simp))).congr (fun i _ => rfl)
          have rowP0 : ((wr.alloc (.cells (madeCells #[.int .i64 0] (n + 1)) 2)).alloc (.cells (madeCells #[.int .i64 0] (n + 1)) 3)).rowIs (B0 + 1) 3 (n + 1) (ic fun _ => 0) := by
            have h := World.rowIs_made (wr.alloc (.cells (madeCells #[.int .i64 0] (n + 1)) 2)) (.int .i64 0) (n + 1) 3
            rw [show (wr.alloc (.cells (madeCells #[.int .i64 0] (n + 1)) 2)).heap.size = B0 + 1 by simp [hB0]] at h
            exact h.congr (fun i _ => rfl)
          have KB := kept_alloc (kept_alloc hb (.cells (madeCells #[.int .i64 0] (n + 1)) 2)) (.cells (madeCells #[.int .i64 0] (n + 1)) 3)
          go_wp2_with fail
          clear hg1 hB0 hmkL hmkP hb
          go_loopw [11] (fun i wr2 => ∃ (e : Nat) (F G : Nat → Int), e ≤ n ∧ i = .int .i64 ((e : Int) - 1) ∧ Below W.heap.size W wr2 ∧ wr2.rowIs B0 2 (n + 1) (ic F) ∧ wr2.rowIs (B0 + 1) 3 (n + 1) (ic G) ∧ Hid (∀ j, e ≤ j → j ≤ n → F j = L j) ∧ Hid (∀ j, e ≤ j → j < n → G j = P j)) (fun i _ => (intOf i + 1).toNat)
          case atStart => exact ⟨n, _, _, Nat.le_refl _, rfl, KB, rowL0, rowP0, fun j h1 h2 => by rw [show j = n by omega, HG.out.last], fun j h1 h2 => absurd h2 (by omega)⟩
          case round =>
            clear rowL0 rowP0 KB
            obtain ⟨e, F, G, he, rfl, hb, hF, hG, HF, HGG⟩ := hrel
            by_cases he0 : 0 < e
            · obtain ⟨i, rfl⟩ : ∃ i, e = i + 1 := ⟨e - 1, by omega⟩
              have ei : (((i + 1 : Nat) : Int) - 1) = (i : Int) := by omega
              rw [ei]
              clear ei he0
              obtain ⟨j1, hj1⟩ := HPK.out i (by omega)
              have HX : Hid (partV z b c d m L i (i + 1) = some (b j1 + L (i + 1))) := by show _ = _; unfold partV; rw [hj1]; rfl
              clear hj1
              have HC : Hid (∀ (k : Nat) (w : World) (cp : Nat), Below W.heap.size W w → i < k → k ≤ n → Calls Tryz.prog 22 #[.slice ao m cap, .slice (some ⟨g1, o + i, none⟩) (k - i) cp] w fun e W' => e = .returned (.int .i64 (pkI (pkF z b c d i k m))) ∧ Below w.heap.size w W') := fun k w cp hbw h1 h2 => by
                have hrow := (HT.out.kept hbw).sub (a := i) (m := k - i) (by omega)
                have h3 := s_l18Part (.slice ao m cap) m a b c d (.slice (some ⟨g1, o + i, none⟩) (k - i) cp) z i (k - i) w (HS.out.kept hbw) (Sl.of_row (by omega) (by rw [Nat.mul_one]; exact hrow)) (by omega) hm8 HFB (fun j h4 h5 => HZ.out j (by omega))
                rw [show i + (k - i) = k by omega] at h3
                exact h3
              have f0 := hF.cell (i := i) (by omega)
              have z0 := hF.frozen i
              have RL := Lib.hid (row_upd hF i (-1))
              have RP := Lib.hid (row_other (i := i) (u := .int .i64 (-1)) hG (show B0 + 1 ≠ B0 by omega))
              have RB := Lib.hid (kept_set hb (p := ⟨B0, i, none⟩) hWB (.int .i64 (-1)))
              simp only [ic] at f0
              clear hF hG hb
              go_wp2_with fail
              clear f0 z0
              go_loopw [12] (fun kv wr2 => ∃ (k : Nat) (F2 G2 : Nat → Int) (p : Nat), i ≤ k ∧ k ≤ n ∧ kv = .int .i64 k ∧ Below W.heap.size W wr2 ∧ wr2.rowIs B0 2 (n + 1) (ic F2) ∧ wr2.rowIs (B0 + 1) 3 (n + 1) (ic G2) ∧ Hid (∀ j, i < j → j ≤ n → F2 j = L j) ∧ Hid (∀ j, i < j → j < n → G2 j = P j) ∧ Hid (Found (partV z b c d m L i) k n (F2 i) p) ∧ Hid (0 ≤ F2 i → G2 i = p)) (fun kv _ => (intOf kv).toNat)
              case atStart => exact ⟨n, _, _, 0, by omega, Nat.le_refl _, rfl, RB.out, RL.out, RP.out, fun j h1 h2 => by rw [upd_ne (by omega)]; exact HF.out j (by omega) h2, fun j h1 h2 => HGG.out j (by omega) h2, by rw [upd_at]; exact Found.start _ _ _, fun h => by rw [upd_at] at h; omega⟩
              case round =>
                clear RL RP RB HF HGG
                obtain ⟨k, F2, G2, p, hik, hkn, rfl, hb, hF, hG, HF, HGG, HFD, HGP⟩ := hrel
                by_cases hki : i < k
                · obtain ⟨k', rfl⟩ : ∃ k', k = k' + 1 := ⟨k - 1, by omega⟩
                  have HCk := Lib.hid (fun cp => HC.out (k' + 1) wr cp hb (by omega) hkn)
                  have hin : ¬ n = i := by omega
                  have hk1 : (k' : Int) < (n : Int) := by omega
                  have hk2 : (0 : Int) ≤ (k' : Int) + 1 := by omega
                  have hk3 : ((k' : Int) + 1).toNat = k' + 1 := by omega
                  have hk4 : (k' : Int) + 1 < (n : Int) + 1 := by omega
                  have hk5 : (i : Int) < (n : Int) + 1 := by omega
                  cases hp : pkF z b c d i (k' + 1) m with
                  | none =>
                    have HCn : Hid (∀ cp, Calls Tryz.prog 22 #[.slice ao m cap, .slice (some ⟨g1, o + i, none⟩) (k' + 1 - i) cp] wr fun e W' => e = .returned (.int .i64 (-1)) ∧ Below wr.heap.size wr W') := fun cp => by have h := HCk.out cp; rw [hp] at h; exact h
                    have HV : Hid (partV z b c d m L i (k' + 1) = none) := by show _ = _; unfold partV; rw [hp]; rfl
                    have HFD' := Lib.hid (HFD.out.down_none HV.out)
                    clear hp HCk HV HFD
                    go_wp2_with (go_at_call 22; refine (HCn.out _).mono ?_; rintro e w2 ⟨rfl, hb2⟩)
                    go_quiet (fail)
                    go_wp2_with fail
                    go_roundw
                    case rel => exact ⟨k', F2, G2, p, by omega, by omega, by go_num, kept_drewN (kept_trans hb hb2) _, row_kept hF (kept_drewN hb2 _), row_kept hG (kept_drewN hb2 _), HF, HGG, HFD', HGP⟩
                    case measure => simp [intOf] <;> omega
                  | some j =>
                    have HCn : Hid (∀ cp, Calls Tryz.prog 22 #[.slice ao m cap, .slice (some ⟨g1, o + i, none⟩) (k' + 1 - i) cp] wr fun e W' => e = .returned (.int .i64 (j : Int)) ∧ Below wr.heap.size wr W') := fun cp => by have h := HCk.out cp; rw [hp] at h; exact h
                    have HV : Hid (partV z b c d m L i (k' + 1) = some (b j + L (k' + 1))) := by show _ = _; unfold partV; rw [hp]; rfl
                    have hjm := pkF_lt hp
                    have hbj := (HFB.out j hjm).1
                    have hLk := HBD.out (k' + 1) (by omega)
                    rw [← HF.out (k' + 1) (by omega) (by omega)] at HV hLk
                    clear hp HCk
                    go_wp2_with (go_at_call 22; refine (HCn.out _).mono ?_; rintro e w2 ⟨rfl, hb2⟩)
                    have hF2 := row_kept hF hb2
                    have hG2 := row_kept hG hb2
                    have fi := hF2.cell (i := i) (by omega)
                    have fk := hF2.cell (i := k' + 1) (by omega)
                    simp only [ic] at fi fk
                    rcases HR.out with h0 | ⟨g, off, hao, hr⟩
                    · omega
                    subst hao
                    obtain ⟨-, s1, -, -⟩ := gccells ((hr.kept hb).kept hb2) hjm
                    clear hr HCn
                    obtain ⟨x, hx0⟩ : ∃ x, F2 i = x := ⟨_, rfl⟩
                    obtain ⟨y, hy0⟩ : ∃ y, F2 (k' + 1) = y := ⟨_, rfl⟩
                    rw [hx0] at fi HFD HGP
                    rw [hy0] at fk HV hLk
                    clear hy0
                    have e1 : IntKind.i64.wrap (b j + y) = b j + y := IntWalk.i64_in _ (by omega)
                    by_cases hxn : x < 0
                    · have d1 : decide (0 ≤ (j : Int)) = true := by simp
                      have d2 : decide (x < 0) = true := by simp; omega
                      clear hx0
                      go_quiet (fail)
                      clear d2
                      go_wp2_with fail
                      have K6 : Below w2.heap.size w2 (w2.drewN nq).drew := kept_drew (kept_drewN (Below.refl _ _) nq)
                      obtain ⟨w6, hw6⟩ : ∃ w6, (w2.drewN nq).drew = w6 := ⟨_, rfl⟩
                      rw [hw6] at K6
                      have HW6 := Lib.hid hw6
                      have s6 := cell_keep K6 s1
                      have fk6 := cell_keep K6 fk
                      have fi6 := cell_keep K6 fi
                      have hF6 := row_kept hF2 K6
                      have hG6 := row_kept hG2 K6
                      have zi6 := hF6.frozen i
                      have RS := Lib.hid (row_upd hF6 i (b j + y))
                      have RG := row_other (i := i) (u := .int .i64 (b j + y)) hG6 (show B0 + 1 ≠ B0 by omega)
                      have gi := RG.cell (i := i) (by omega)
                      have zg := RG.frozen i
                      simp only [ic] at gi
                      have RS2 := Lib.hid (row_other (i := i) (u := .int .i64 ((k' + 1 : Nat) : Int)) RS.out (show B0 ≠ B0 + 1 by omega))
                      have RG2 := Lib.hid (row_upd RG i ((k' + 1 : Nat) : Int))
                      have RB := Lib.hid (kept_set (kept_set (kept_trans (kept_trans hb hb2) K6) (p := ⟨B0, i, none⟩) hWB (.int .i64 (b j + y))) (p := ⟨B0 + 1, i, none⟩) (show W.heap.size ≤ B0 + 1 by omega) (.int .i64 ((k' + 1 : Nat) : Int)))
                      have ecast : ((k' + 1 : Nat) : Int) = (k' : Int) + 1 := by omega
                      rw [ecast] at RS2 RG2 RB
                      clear hw6 K6 hF6 hG6 hF2 hG2 hF hG hb hb2 s1 fk fi RG RS d1
                      refine region_tail_at 13 (by kernel_rfl) (by kernel_rfl) w6 HW6.out ?_
                      simp only [List.take_succ_cons, List.take_zero, List.drop_succ_cons, List.drop_zero]
                      repeat still_step
                      refine wpStill_nil ?_
                      clear e1
                      go_wp2_with fail
                      go_roundw
                      case rel =>
                        refine ⟨k', _, _, k' + 1, by omega, by omega, by go_num, RB.out, RS2.out, RG2.out, fun j' h1 h2 => ?_, fun j' h1 h2 => ?_, ?_, fun _ => ?_⟩
                        · rw [upd_ne (by omega)]; exact HF.out j' h1 h2
                        · rw [upd_ne (by omega)]; exact HGG.out j' h1 h2
                        · rw [upd_at]; exact HFD.out.down_take (by omega) HV.out (by omega) (by left; exact hxn)
                        · rw [upd_at]; omega
                      case measure => simp [intOf] <;> omega
                    · by_cases hlt : b j + y < x
                      · have d1 : decide (0 ≤ (j : Int)) = true := by simp
                        have d2 : decide (x < 0) = false := by simp; omega
                        have d3 : decide (b j + y < x) = true := by simp; omega
                        clear hx0
                        go_quiet (fail)
                        clear d2 d3
                        go_wp2_with fail
                        have K6 : Below w2.heap.size w2 (w2.drewN nq).drew := kept_drew (kept_drewN (Below.refl _ _) nq)
                        obtain ⟨w6, hw6⟩ : ∃ w6, (w2.drewN nq).drew = w6 := ⟨_, rfl⟩
                        rw [hw6] at K6
                        have HW6 := Lib.hid hw6
                        have s6 := cell_keep K6 s1
                        have fk6 := cell_keep K6 fk
                        have fi6 := cell_keep K6 fi
                        have hF6 := row_kept hF2 K6
                        have hG6 := row_kept hG2 K6
                        have zi6 := hF6.frozen i
                        have RS := Lib.hid (row_upd hF6 i (b j + y))
                        have RG := row_other (i := i) (u := .int .i64 (b j + y)) hG6 (show B0 + 1 ≠ B0 by omega)
                        have gi := RG.cell (i := i) (by omega)
                        have zg := RG.frozen i
                        simp only [ic] at gi
                        have RS2 := Lib.hid (row_other (i := i) (u := .int .i64 ((k' + 1 : Nat) : Int)) RS.out (show B0 ≠ B0 + 1 by omega))
                        have RG2 := Lib.hid (row_upd RG i ((k' + 1 : Nat) : Int))
                        have RB := Lib.hid (kept_set (kept_set (kept_trans (kept_trans hb hb2) K6) (p := ⟨B0, i, none⟩) hWB (.int .i64 (b j + y))) (p := ⟨B0 + 1, i, none⟩) (show W.heap.size ≤ B0 + 1 by omega) (.int .i64 ((k' + 1 : Nat) : Int)))
                        have ecast : ((k' + 1 : Nat) : Int) = (k' : Int) + 1 := by omega
                        rw [ecast] at RS2 RG2 RB
                        clear hw6 K6 hF6 hG6 hF2 hG2 hF hG hb hb2 s1 fk fi RG RS d1
                        refine region_tail_at 13 (by kernel_rfl) (by kernel_rfl) w6 HW6.out ?_
                        simp only [List.take_succ_cons, List.take_zero, List.drop_succ_cons, List.drop_zero]
                        repeat still_step
                        refine wpStill_nil ?_
                        clear e1
                        go_wp2_with fail
                        go_roundw
                        case rel =>
                          refine ⟨k', _, _, k' + 1, by omega, by omega, by go_num, RB.out, RS2.out, RG2.out, fun j' h1 h2 => ?_, fun j' h1 h2 => ?_, ?_, fun _ => ?_⟩
                          · rw [upd_ne (by omega)]; exact HF.out j' h1 h2
                          · rw [upd_ne (by omega)]; exact HGG.out j' h1 h2
                          · rw [upd_at]; exact HFD.out.down_take (by omega) HV.out (by omega) (by right; exact hlt)
                          · rw [upd_at]; omega
                        case measure => simp [intOf] <;> omega
                      · have d1 : decide (0 ≤ (j : Int)) = true := by simp
                        have d2 : decide (x < 0) = false := by simp; omega
                        have d3 : decide (b j + y < x) = false := by simp; omega
                        have HFD' := Lib.hid (HFD.out.down_keep HV.out (by omega) (by omega))
                        rw [← hx0] at HFD' HGP
                        clear HV HFD hx0
                        go_quiet (fail)
                        clear e1 d1 d2 d3
                        go_wp2_with fail
                        go_roundw
                        case rel => exact ⟨k', F2, G2, p, by omega, by omega, by go_num, kept_drewN (kept_trans hb hb2) _, row_kept hF (kept_drewN hb2 _), row_kept hG (kept_drewN hb2 _), HF, HGG, HFD', HGP⟩
                        case measure => simp [intOf] <;> omega
                · obtain rfl : k = i := by omega
                  obtain ⟨h0, hbest⟩ := HFD.out.best' (by omega) HX.out
                  obtain ⟨e1, e2⟩ := hbest.uniq (HG.out.best k (by omega))
                  have HF' : Hid (∀ j, k ≤ j → j ≤ n → F2 j = L j) := fun j h1 h2 => by
                    by_cases e : j = k
                    · rw [e]; exact e1
                    · exact HF.out j (by omega) h2
                  have HGG' : Hid (∀ j, k ≤ j → j < n → G2 j = P j) := fun j h1 h2 => by
                    by_cases e : j = k
                    · rw [e, HGP.out h0, e2]
                    · exact HGG.out j (by omega) h2
                  clear hbest e1 e2 HF HGG HGP HFD HX HC
                  go_wp2_with fail
                  go_roundw
                  case rel => exact ⟨k, F2, G2, by omega, by go_num, hb, hF, hG, HF', HGG'⟩
                  case measure => simp [intOf] <;> omega
            · obtain rfl : e = 0 := by omega
              have HF0 : Hid (F 0 = L 0) := HF.out 0 (Nat.le_refl _) (Nat.zero_le _)
              have HGG := Lib.hid (fun j h => HGG.out j (Nat.zero_le _) h)
              have hG1 := hG.lt
              have ez : (((0 : Nat) : Int) - 1) = -1 := rfl
              rw [ez]
              clear ez he0 he HF
              generalize wr = w0 at *
              have hGw := Lib.hid hG
              have hFw := Lib.hid hF
              have hbw := Lib.hid hb
              clear hG hF hb
              obtain ⟨i0, hi, hz0, hz1, hz2⟩ := info_parts infoStrC
              have O1 : Hid (Out (w0.alloc (.cells #[] 9)) w0.heap.size 9 1 (.slice (some ⟨w0.heap.size, 0, none⟩) 0 0) ([] : List ByteArray).length (sc (tl []))) := Out.empty _ _ _ _ _ (Nat.le_refl _)
              go_wp2_with fail
              go_loopw [14, 15] (fun o iv wr2 => ∃ (t : Nat) (x : Value) (Ls : List ByteArray), stF P t ≤ n ∧ t ≤ stF P t ∧ iv = .int .i64 (stF P t) ∧ x = o ∧ Below w0.heap.size w0 wr2 ∧ Ls.length = t ∧ Hid (idF a (fun i k => pkF z b c d i k m) P t = Ls) ∧ Out wr2 w0.heap.size 9 1 x Ls.length (sc (tl Ls)) ∧ Hid (∀ s, s < t → stF P s < n)) (fun _ iv _ => n - (intOf iv).toNat)
              case atStart => exact ⟨0, _, [], by rw [stF_zero]; omega, Nat.zero_le _, by rw [stF_zero]; rfl, rfl, kept_alloc (Below.refl _ _) _, rfl, idF_zero _ _ _, O1.out, fun s h => absurd h (by omega)⟩
              case round =>
                clear O1
                obtain ⟨t, x, Ls, hst, hts, rfl, rfl, hb, hLt, hLs, hown, hno⟩ := hrel
                obtain ⟨s, hs⟩ : ∃ s, stF P t = s := ⟨_, rfl⟩
                rw [hs] at hst hts ⊢
                by_cases hsn : s < n
                · have hpos := HG.out.best s hsn
                  obtain ⟨j, hjm, hpk, -⟩ := partV_some hpos.at_
                  have hlo := hpos.lo
                  have hhi := hpos.hi
                  have HS1 : Hid (stF P (t + 1) = P s) := by show _ = _; rw [stF_succ, hs]
                  have HI1 : Hid (idF a (fun i k => pkF z b c d i k m) P (t + 1) = Ls ++ [a j]) := by show _ = _; rw [idF_succ, hs, hLs.out, hpk]; rfl
                  have HN : Hid (∀ s', s' < t + 1 → stF P s' < n) := fun s' h => by
                    by_cases e : s' = t
                    · rw [e, hs]; exact hsn
                    · exact hno.out s' (by omega)
                  have HC : Hid (∀ (w : World) (cp : Nat), Below W.heap.size W w → Calls Tryz.prog 22 #[.slice ao m cap, .slice (some ⟨g1, o + s, none⟩) (P s - s) cp] w fun e W' => e = .returned (.int .i64 (j : Int)) ∧ Below w.heap.size w W') := fun w cp hbw => by
                    have hrow := (HT.out.kept hbw).sub (a := s) (m := P s - s) (by omega)
                    have h3 := s_l18Part (.slice ao m cap) m a b c d (.slice (some ⟨g1, o + s, none⟩) (P s - s) cp) z s (P s - s) w (HS.out.kept hbw) (Sl.of_row (by omega) (by rw [Nat.mul_one]; exact hrow)) (by omega) hm8 HFB (fun j h4 h5 => HZ.out j (by omega))
                    rw [show s + (P s - s) = P s by omega, hpk] at h3
                    exact h3
                  have HCk := Lib.hid (fun cp => HC.out wr cp (kept_trans hbw.out hb))
                  have gi0 := hGw.out.cell (i := s) (by omega)
                  simp only [ic] at gi0
                  rw [HGG.out s hsn] at gi0
                  have gi := cell_keep hb gi0
                  generalize P s = p at *
                  rcases HR.out with h0 | ⟨g, off, hao, hr⟩
                  · omega
                  subst hao
                  have HS0 : Hid (∀ w, Below W.heap.size W w → w.cell? ⟨g, off + j * 4, none⟩ = some (.string (a j))) := fun w hbw => (gccells (hr.kept hbw) hjm).1
                  have hcn : ¬ n = s := by omega
                  have hk1 : (s : Int) ≤ (p : Int) := by omega
                  have hk2 : (p : Int) ≤ (n : Int) := by omega
                  have hk3 : (s : Int) < (n : Int) + 1 := by omega
                  have hLn : Ls.length ≤ 40 := by omega
                  clear hr HC hpos hpk hno hs hLs
                  go_wp2_with (first
                    | (at_builtin; have hmk := hb2; refine wpList_append_own _ rfl _ _ 28 rfl _ 9 i0 _ 1 16 Tryz.underlying28 hi hz0 hz1 hz2 rfl (by decide) _ _ _ rfl (ownB.out.row.alloc _) ⟨w2.heap.size, 0, none⟩ 1 1 [.string (a j)] rfl rfl (laid_at (by simp)) (by intro u hu; simp at hu; subst hu; rfl) (by simp only [maxLen]; omega) (by omega) (by have hbs := hbB.size; simp at hbs ⊢; omega) ?_; intro v1 w3 hown1 hgrow1 _; have R2 := below_of_append hbB ownB.out.row hgrow1; have gi3 := cell_keep R2 gi0)
                    | (go_at_call 22; refine (HCk.out _).mono ?_; rintro e w2 ⟨rfl, hb2⟩; have s0 := HS0.out w2 (kept_trans (kept_trans hbw.out hb) hb2); have ownB := Lib.hid (hown.kept hb2); have hbB := kept_trans hb hb2))
                  have R1 := Lib.hid (Out.snocT hown1)
                  clear ownB hown hown1 hgrow1 hbB hb hb2 s0 gi gi0
                  go_roundw
                  case rel => exact ⟨t + 1, v1, Ls ++ [a j], by rw [HS1.out]; omega, by rw [HS1.out]; omega, by rw [HS1.out], rfl, R2, by simp; omega, HI1.out, R1.out, HN⟩
                  case measure => simp [intOf] <;> omega
                · have hT : endF P n = t := endF_eq (by omega) hno.out (by rw [hs]; omega)
                  have hM : Hid (idF a (fun i k => pkF z b c d i k m) P (endF P n) = Ls) := by rw [hT]; exact hLs
                  have f00 := (row_kept hFw.out hb).cell (i := 0) (by omega)
                  simp only [ic] at f00
                  clear hno hs hLs
                  go_wp2_with fail
                  go_ret3
                  refine ⟨x, by rw [HF0.out]; rfl, kept_trans hbw.out hb, ?_⟩
                  rw [hM.out]
                  exact hown.base_le' hbw.out.size
        · have hg1 : decide (0 < n) = false := by simp; omega
          have HN0 : Hid (n ≤ 0) := by show _ ≤ _; omega
          clear hn0 hmn
          have hmkL := fun w : World => run_make_row' (P := Tryz.prog) 25 2 (.int .i64 0) 8 Tryz.underlying25 infoInt rfl .i64 .i64 (n + 1) (by omega) (by omega) w
          have hmkP := fun w : World => run_make_row' (P := Tryz.prog) 49 3 (.int .i64 0) 8 Tryz.underlying49 infoGoInt rfl .i64 .i64 (n + 1) (by omega) (by omega) w
          have ecast : ((n + 1 : Nat) : Int) = (n : Int) + 1 := by omega
          simp only [ecast] at hmkL hmkP
          clear ecast
          obtain ⟨B0, hB0⟩ : ∃ B0, wr.heap.size = B0 := ⟨_, rfl⟩
          have hWB : W.heap.size ≤ B0 := by rw [← hB0]; exact hb.size
          have rowL0 : ((wr.alloc (.cells (madeCells #[.int .i64 0] (n + 1)) 2)).alloc (.cells (madeCells #[.int .i64 0] (n + 1)) 3)).rowIs B0 2 (n + 1) (ic fun _ => 0) := by
            rw [← hB0]
            exact ((World.rowIs_made wr _ (n + 1) 2).of_block (heap_alloc_old _ _ (by simp))).congr (fun i _ => rfl)
          have rowP0 : ((wr.alloc (.cells (madeCells #[.int .i64 0] (n + 1)) 2)).alloc (.cells (madeCells #[.int .i64 0] (n + 1)) 3)).rowIs (B0 + 1) 3 (n + 1) (ic fun _ => 0) := by
            have h := World.rowIs_made (wr.alloc (.cells (madeCells #[.int .i64 0] (n + 1)) 2)) (.int .i64 0) (n + 1) 3
            rw [show (wr.alloc (.cells (madeCells #[.int .i64 0] (n + 1)) 2)).heap.size = B0 + 1 by simp [hB0]] at h
            exact h.congr (fun i _ => rfl)
          have KB := kept_alloc (kept_alloc hb (.cells (madeCells #[.int .i64 0] (n + 1)) 2)) (.cells (madeCells #[.int .i64 0] (n + 1)) 3)
          go_wp2_with fail
          clear hg1 hB0 hmkL hmkP hb
          go_loopw [11] (fun i wr2 => ∃ (e : Nat) (F G : Nat → Int), e ≤ n ∧ i = .int .i64 ((e : Int) - 1) ∧ Below W.heap.size W wr2 ∧ wr2.rowIs B0 2 (n + 1) (ic F) ∧ wr2.rowIs (B0 + 1) 3 (n + 1) (ic G) ∧ Hid (∀ j, e ≤ j → j ≤ n → F j = L j) ∧ Hid (∀ j, e ≤ j → j < n → G j = P j)) (fun i _ => (intOf i + 1).toNat)
          case atStart => exact ⟨n, _, _, Nat.le_refl _, rfl, KB, rowL0, rowP0, fun j h1 h2 => by rw [show j = n by omega, HG.out.last], fun j h1 h2 => absurd h2 (by omega)⟩
          case round =>
            clear rowL0 rowP0 KB
            obtain ⟨e, F, G, he, rfl, hb, hF, hG, HF, HGG⟩ := hrel
            by_cases he0 : 0 < e
            · have := HN0.out; omega
            · obtain rfl : e = 0 := by omega
              have HF0 : Hid (F 0 = L 0) := HF.out 0 (Nat.le_refl _) (Nat.zero_le _)
              have HGG := Lib.hid (fun j h => HGG.out j (Nat.zero_le _) h)
              have hG1 := hG.lt
              have ez : (((0 : Nat) : Int) - 1) = -1 := rfl
              rw [ez]
              clear ez he0 he HF
              generalize wr = w0 at *
              have hGw := Lib.hid hG
              have hFw := Lib.hid hF
              have hbw := Lib.hid hb
              clear hG hF hb
              obtain ⟨i0, hi, hz0, hz1, hz2⟩ := info_parts infoStrC
              have O1 : Hid (Out (w0.alloc (.cells #[] 9)) w0.heap.size 9 1 (.slice (some ⟨w0.heap.size, 0, none⟩) 0 0) ([] : List ByteArray).length (sc (tl []))) := Out.empty _ _ _ _ _ (Nat.le_refl _)
              go_wp2_with fail
              go_loopw [14, 15] (fun o iv wr2 => ∃ (t : Nat) (x : Value) (Ls : List ByteArray), stF P t ≤ n ∧ t ≤ stF P t ∧ iv = .int .i64 (stF P t) ∧ x = o ∧ Below w0.heap.size w0 wr2 ∧ Ls.length = t ∧ Hid (idF a (fun i k => pkF z b c d i k m) P t = Ls) ∧ Out wr2 w0.heap.size 9 1 x Ls.length (sc (tl Ls)) ∧ Hid (∀ s, s < t → stF P s < n)) (fun _ iv _ => n - (intOf iv).toNat)
              case atStart => exact ⟨0, _, [], by rw [stF_zero]; omega, Nat.zero_le _, by rw [stF_zero]; rfl, rfl, kept_alloc (Below.refl _ _) _, rfl, idF_zero _ _ _, O1.out, fun s h => absurd h (by omega)⟩
              case round =>
                clear O1
                obtain ⟨t, x, Ls, hst, hts, rfl, rfl, hb, hLt, hLs, hown, hno⟩ := hrel
                obtain ⟨s, hs⟩ : ∃ s, stF P t = s := ⟨_, rfl⟩
                rw [hs] at hst hts ⊢
                by_cases hsn : s < n
                · have := HN0.out; omega
                · have hT : endF P n = t := endF_eq (by omega) hno.out (by rw [hs]; omega)
                  have hM : Hid (idF a (fun i k => pkF z b c d i k m) P (endF P n) = Ls) := by rw [hT]; exact hLs
                  have f00 := (row_kept hFw.out hb).cell (i := 0) (by omega)
                  simp only [ic] at f00
                  clear hno hs hLs
                  go_wp2_with fail
                  go_ret3
                  refine ⟨x, by rw [HF0.out]; rfl, kept_trans hbw.out hb, ?_⟩
                  rw [hM.out]
                  exact hown.base_le' hbw.out.size

end Go.Proofs.YtjmklkhdemolmaaGreatDoor
