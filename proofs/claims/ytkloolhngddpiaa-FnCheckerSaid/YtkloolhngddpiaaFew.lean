/- The fewest events to a ride's end: the program's walk, the reference's, and the law. -/
import Derived.Test.YtkloolhngddpiaaRide
import Derived.Test.YtkloolhngddpiaaCLawA
import Derived.Test.YtkloolhngddpiaaChkI
import Derived.Test.YtkloolhngddpiaaOpenSt
namespace Go.Proofs.Ytkloolhngddpiaa
open Go.RowKit Go.Deep
set_option linter.unusedVariables false
set_option maxRecDepth 100000

def sK (n : Nat) (ms : List (Nat × Nat × Nat)) : Nat → List Nat
  | 0 => zeros n
  | k + 1 => stp (sK n ms k) (nthM ms k)
theorem sK_at (n : Nat) (ms : List (Nat × Nat × Nat)) (k : Nat) (h : k ≤ ms.length) : stepsAt n ms k = sK n ms k := by
  have key : ∀ k, k ≤ ms.length → sK n ms k = (ms.take k).foldl stp (zeros n) := by
    intro k
    induction k with
    | zero => intro _; rfl
    | succ k ih =>
      intro h
      rw [take_nthM (by omega), List.foldl_append, ← ih (by omega)]
      rfl
  exact (key k h).symm
theorem nth_zeros (n j : Nat) : nth (zeros n) j = 0 := by
  induction n generalizing j with
  | zero => rfl
  | succ n ih => cases j with
    | zero => rfl
    | succ j => exact ih j
theorem zeros_len (n : Nat) : (zeros n).length = n := by
  induction n with
  | zero => rfl
  | succ n ih => simp [zeros, ih]
theorem stp_no {l : List Nat} {f e t : Nat} (h : t = 0 ∨ nth l t ≠ 0) : stp l (f, e, t) = l := by
  unfold stp
  show cond (!Nat.beq t 0 && Nat.beq (nth l t) 0) _ _ = _
  rcases h with rfl | h
  · rfl
  · rw [beq_ne h]; simp
theorem stp_yes {l : List Nat} {f e t : Nat} (h1 : t ≠ 0) (h2 : nth l t = 0) : stp l (f, e, t) = setN l t (nth l f + 1) := by
  unfold stp
  show cond (!Nat.beq t 0 && Nat.beq (nth l t) 0) _ _ = _
  rw [beq_ne h1, h2]; rfl
theorem fst7_ne {ms : List (Nat × Nat × Nat)} {k : Nat} (h : k < fst7 ms) : (nthM ms k).2.1 ≠ 7 := by
  induction ms generalizing k with
  | nil => simp [fst7] at h
  | cons m ms ih =>
    cases e : Nat.beq m.2.1 7
    · simp only [fst7, e, cond_false] at h
      cases k with
      | zero => intro h7; rw [show (nthM (m :: ms) 0) = m from rfl] at h7; rw [h7] at e; cases e
      | succ k => exact ih (by simpa using h)
    · simp only [fst7, e, cond_true] at h; omega
theorem fst7_at {ms : List (Nat × Nat × Nat)} (h : fst7 ms < ms.length) : (nthM ms (fst7 ms)).2.1 = 7 := by
  induction ms with
  | nil => simp at h
  | cons m ms ih =>
    cases e : Nat.beq m.2.1 7
    · have e2 : fst7 (m :: ms) = fst7 ms + 1 := by simp only [fst7, e, cond_false]
      rw [e2] at h ⊢
      exact ih (by simpa using h)
    · have e2 : fst7 (m :: ms) = 0 := by simp only [fst7, e, cond_true]
      rw [e2]
      exact Nat.eq_of_beq_eq_true e
theorem nrow_set {w : World} {g n i v : Nat} {l : List Nat} (h : w.rowIs g 2 n (nc l)) (hl : l.length = n) (hi : i < n) : (w.setCell ⟨g, i, none⟩ (.int .i64 (v : Nat))).rowIs g 2 n (nc (setN l i v)) := by
  refine (h.set i _).congr (fun j hj => ?_)
  simp only [nc, nth_setN (show i < l.length by omega)]
  by_cases e : j = i
  · simp [e]
  · simp [e]
theorem chk7_out {x : Nat} (hx : x < 80) : nth (far (R x).length (M x) (goals7 (M x))) 0 = few x ∧ ∀ i, i < (R x).length → 1 ≤ nth (far (R x).length (M x) (goals7 (M x))) i := by
  have h := all80_out chk7_ok x hx
  unfold chk7 at h
  rw [withX_eq, forceL_eq, forceN_eq] at h
  have h2 := farW_sound h
  simp only [Bool.and_eq_true] at h2
  refine ⟨Nat.eq_of_beq_eq_true h2.1, fun i hi => ?_⟩
  have hl : i < (far (R x).length (M x) (goals7 (M x))).length := by
    unfold far; rw [relN_len, goal0_len]; exact hi
  have h3 := List.all_eq_true.1 h2.2 _ (nth_mem hl)
  rw [Nat.blt_eq] at h3
  exact h3

set_option maxHeartbeats 3200000 in
theorem i_toRide (x : Nat) (W : World) (hx : x < 80) :
    Calls Try.prog 91 #[.agg #[.int .i64 (cm x : Nat), .bool (co x), .bool (ca x), .bool (cb x), .bool (ce x)]] W fun en W' => en = .returned (.int .i64 (few x : Nat)) ∧ Below W.heap.size W W' := by
  have KB := kept_alloc (Below.refl W.heap.size W) (.cells #[.int .i64 (cm x : Nat), .bool (co x), .bool (ca x), .bool (cb x), .bool (ce x)] 53)
  have HRc := Lib.hid (fun w => i_reached x w hx)
  unfold ReachPost at HRc
  have hM45 : (M x).length ≤ 45 := (chk0_out hx).2.2.2.1
  have hR20 : (R x).length ≤ 20 := (chk0_out hx).2.2.1
  have hR1 := R_pos hx
  have h7 := (chk0_out hx).2.2.2.2
  have HMI := Lib.hid (fun i h => M_in (x := x) hx (i := i) h)
  have H7 := Lib.hid (fst7_at h7)
  have HN7 := Lib.hid (fun k h => fst7_ne (ms := M x) (k := k) h)
  have HFEW : Hid (few x = nth (sK (R x).length (M x) (fst7 (M x))) (nthM (M x) (fst7 (M x))).1 + 1) := by
    show few x = _
    unfold few
    rw [sK_at _ _ _ (by omega)]
  generalize few x = FF at *
  generalize fst7 (M x) = f7 at *
  generalize M x = ms at *
  generalize R x = L at *
  obtain ⟨nm, hn⟩ : ∃ n, ms.length = n := ⟨_, rfl⟩
  obtain ⟨n, hnL⟩ : ∃ n, L.length = n := ⟨_, rfl⟩
  rw [hn] at HRc HMI hM45 h7
  rw [hnL] at HRc HMI hR20 hR1 HFEW
  have hmk := fun w => run_make_row' (P := Try.prog) 35 2 (.int .i64 0) 8 Try.underlying35 infoInt rfl .i64 .i64 n (by omega) (by omega) w
  clear hn hnL
  go_enter Try.func91, Try.ntmps91
  go_wp2_with (first | (go_at_call 87; refine (HRc.out _).mono ?_; rintro e w2 ⟨v1, v2, rfl, hb2, ho1, ho2⟩; obtain ⟨g1, cap1, rfl, -, -⟩ := ho1.opened (by omega); obtain ⟨gm, capm, rfl, hgm, hrm⟩ := ho2.opened (by omega)))
  have hk2 := kept_alloc hb2 (.cells (madeCells #[.int .i64 0] n) 2)
  have hrow0 : (w2.alloc (.cells (madeCells #[.int .i64 0] n) 2)).rowIs w2.heap.size 2 n (nc (zeros n)) := (World.rowIs_made w2 _ n 2).congr (fun i hi => by simp [nc, nth_zeros])
  have KW : Below W.heap.size W (w2.alloc (.cells (madeCells #[.int .i64 0] n) 2)) := kept_trans KB hk2
  have hszW : W.heap.size ≤ w2.heap.size := (kept_trans KB hb2).size
  have hgm2 : gm < w2.heap.size := hrm.1
  have hmv0 := ho2.kept (kept_alloc (Below.refl _ _) (.cells (madeCells #[.int .i64 0] n) 2))
  have HZ : Hid (zeros n = sK n ms 0) := rfl
  have HZL := Lib.hid (zeros_len n)
  have HZB : Hid (∀ i, nth (zeros n) i ≤ 0) := fun i => by rw [nth_zeros]; omega
  generalize zeros n = Z at *
  clear hrm ho1 ho2 hb2 hk2 KB hmk HRc
  go_loopw [18] (fun i wr => ∃ (k B : Nat) (l : List Nat), k ≤ f7 ∧ i = .int .i64 k ∧ Hid (l = sK n ms k) ∧ Hid (l.length = n) ∧ Hid (∀ i, nth l i ≤ k) ∧ Below W.heap.size W wr ∧ Out wr B 77 3 (.slice (some ⟨gm, 0, none⟩) nm capm) nm (mvc ms) ∧ wr.rowIs w2.heap.size 2 n (nc l)) (fun i _ => nm - (intOf i).toNat)
  case atStart => exact ⟨0, _, Z, by omega, rfl, HZ, HZL, HZB, KW, hmv0, hrow0⟩
  case round =>
    clear hmv0 hrow0 KW HZ HZL HZB
    obtain ⟨k, B, l, hk, rfl, hl, hll, hlb, hb, hmv, hrow⟩ := hrel
    have hlt : k < nm := by omega
    obtain ⟨f, e, t, hm⟩ : ∃ f e t, nthM ms k = (f, e, t) := ⟨_, _, _, rfl⟩
    have hmi := HMI.out k hlt
    rw [hm] at hmi
    obtain ⟨hfn, htn, -, -⟩ := hmi
    simp only at hfn htn
    obtain ⟨s0, s1, s2⟩ := mvcells hmv.row_at hlt hm
    simp only [Nat.zero_add] at s0 s1 s2
    have KA := kept_alloc (Below.refl wr.heap.size wr) (.cells #[.int .i64 (f : Nat), .int .i64 (e : Nat), .int .i64 (t : Nat)] 77)
    have hrowA := hrow.of_block (KA.block _ hrow.lt)
    obtain ⟨a, ha⟩ : ∃ a, nth l f = a := ⟨_, rfl⟩
    obtain ⟨c, hc⟩ : ∃ c, nth l t = c := ⟨_, rfl⟩
    have hak : a ≤ k := by rw [← ha]; exact hlb.out f
    have cF := hrowA.cell (i := f) hfn
    have cT := hrowA.cell (i := t) htn
    have fT := hrowA.frozen t
    simp only [nc, ha] at cF
    simp only [nc, hc] at cT
    have hf1 : (f : Int) < n := by omega
    have hf0 : (0 : Int) ≤ f := by omega
    have ht1 : (t : Int) < n := by omega
    have ht0 : (0 : Int) ≤ t := by omega
    have hnx : sK n ms (k + 1) = stp l (f, e, t) := by show stp (sK n ms k) (nthM ms k) = _; rw [← hl.out, hm]
    by_cases hk7 : k = f7
    · have e7 := H7.out
      rw [← hk7, hm] at e7
      simp only at e7
      have hres := HFEW.out
      rw [← hk7, ← hl.out, hm] at hres
      simp only at hres
      rw [ha] at hres
      have HRES := Lib.hid hres
      have d7 : ((e : Int) == 7) = true := by simp; omega
      clear hm hres hnx hk7 ha hc hrow hrowA hmv e7
      go_wp2
      go_ret
      exact ⟨by rw [HRES.out]; exact ret_int (by omega), kept_trans hb KA⟩
    · have e7 : e ≠ 7 := by have := HN7.out k (by omega); rw [hm] at this; exact this
      have d7 : ((e : Int) == 7) = false := by simp; omega
      have hk7' : k < f7 := by omega
      clear hk7
      by_cases h0 : t = 0
      · have HN := Lib.hid (show l = sK n ms (k + 1) by rw [hnx, stp_no (.inl h0)])
        have HB2 : Hid (∀ i, nth l i ≤ k + 1) := fun i => by have := hlb.out i; omega
        subst h0
        clear hm hnx ha hc hrow e7
        go_wp2
        go_roundw
        case rel => exact ⟨k + 1, B, l, by omega, by go_num, HN, hll, HB2, kept_trans hb KA, hmv.kept KA, hrowA⟩
        case measure => simp [intOf]; omega
      · have d0 : ((t : Int) != 0) = true := by simp; omega
        by_cases h1 : c = 0
        · have HN := Lib.hid (show setN l t (a + 1) = sK n ms (k + 1) by rw [hnx, stp_yes h0 (by omega), ha])
          have HB2 : Hid (∀ i, nth (setN l t (a + 1)) i ≤ k + 1) := fun i => by
            rw [nth_setN (by rw [hll.out]; exact htn)]
            split
            · omega
            · have := hlb.out i; omega
          have HSL := Lib.hid (show (setN l t (a + 1)).length = n by rw [setN_len]; exact hll.out)
          have d1 : ((c : Int) == 0) = true := by simp; omega
          have K6 : Below (wr.alloc (.cells #[.int .i64 (f : Nat), .int .i64 (e : Nat), .int .i64 (t : Nat)] 77)).heap.size (wr.alloc (.cells #[.int .i64 (f : Nat), .int .i64 (e : Nat), .int .i64 (t : Nat)] 77)) (wr.alloc (.cells #[.int .i64 (f : Nat), .int .i64 (e : Nat), .int .i64 (t : Nat)] 77)).drew := kept_drew (Below.refl _ _)
          obtain ⟨w6, hw6⟩ : ∃ w6, (wr.alloc (.cells #[.int .i64 (f : Nat), .int .i64 (e : Nat), .int .i64 (t : Nat)] 77)).drew = w6 := ⟨_, rfl⟩
          rw [hw6] at K6
          have HW6 := Lib.hid hw6
          have b0 : w6.cell? ⟨wr.heap.size, 0, none⟩ = some (.int .i64 (f : Nat)) := cell_keep K6 (boxed_at rfl rfl)
          have b1 : w6.cell? ⟨wr.heap.size, 1, none⟩ = some (.int .i64 (e : Nat)) := cell_keep K6 (boxed_at rfl rfl)
          have b2 : w6.cell? ⟨wr.heap.size, 2, none⟩ = some (.int .i64 (t : Nat)) := cell_keep K6 (boxed_at rfl rfl)
          have cF6 := cell_keep K6 cF
          have cT6 := cell_keep K6 cT
          have hrow6 := hrowA.of_block (K6.block _ hrowA.lt)
          have fT6 := hrow6.frozen t
          have RS := Lib.hid (nrow_set (v := a + 1) hrow6 hll.out htn)
          have RB := Lib.hid (kept_set (kept_trans (kept_trans hb KA) K6) (p := ⟨w2.heap.size, t, none⟩) hszW (.int .i64 ((a + 1 : Nat) : Int)))
          have RM := Lib.hid ((((hmv.kept KA).kept K6)).setcell w2.heap.size t (.int .i64 ((a + 1 : Nat) : Int)) (fun b hb => by simp only [Value.ownBlock, Option.some.injEq] at hb; omega))
          have HV := Lib.hid (show ((a + 1 : Nat) : Int) = (a : Int) + 1 by omega)
          rw [HV.out] at RS RB RM
          clear hm hnx ha hc hrow e7 hrowA hmv hw6 K6 hrow6 HV
          go_wp2_with fail
          refine region_tail_at 10 (by kernel_rfl) (by kernel_rfl) w6 HW6.out ?_
          simp only [List.take_succ_cons, List.take_zero, List.drop_succ_cons, List.drop_zero]
          repeat still_step
          refine wpStill_nil ?_
          go_wp2_with fail
          go_roundw
          case rel => exact ⟨k + 1, B, _, by omega, by go_num, HN, HSL, HB2, RB.out, RM.out, RS.out⟩
          case measure => simp [intOf]; omega
        · have HN := Lib.hid (show l = sK n ms (k + 1) by rw [hnx, stp_no (.inr (by omega))])
          have HB2 : Hid (∀ i, nth l i ≤ k + 1) := fun i => by have := hlb.out i; omega
          have d1 : ((c : Int) == 0) = false := by simp; omega
          clear hm hnx ha hc hrow e7
          go_wp2
          go_roundw
          case rel => exact ⟨k + 1, B, l, by omega, by go_num, HN, hll, HB2, kept_trans hb KA, hmv.kept KA, hrowA⟩
          case measure => simp [intOf]; omega

theorem s_FewestToRide_no (m : Int) (o a b e : Bool) (W : World) (hm : inB m 0 4 = false) :
    Calls Try.prog 47 #[.agg #[.int .i64 m, .bool o, .bool a, .bool b, .bool e]] W fun en W' => en = .returned (.tuple #[.int .i64 0, .int .i64 1]) ∧ Below W.heap.size W W' := by
  have HO := Lib.hid (fun w h => s_l13Ok m W.heap.size 0 w h)
  rw [hm] at HO
  have q0 : (W.alloc (.cells #[.int .i64 m, .bool o, .bool a, .bool b, .bool e] 53)).cell? ⟨W.heap.size, 0, none⟩ = some (.int .i64 m) := boxed_at rfl rfl
  have Q0 := Lib.hid q0
  clear q0 hm
  go_enter Try.func47, Try.ntmps47
  go_wp2_with (go_at_call 83; refine (HO.out _ Q0.out).mono ?_; rintro e w' ⟨rfl, rfl⟩)
  go_ret2
  exact ⟨rfl, kept_alloc (Below.refl _ _) _⟩
theorem i_FewestToRide_no (m : Int) (o a b e : Bool) (W : World) (hm : inB m 0 4 = false) :
    Calls Try.prog 48 #[.agg #[.int .i64 m, .bool o, .bool a, .bool b, .bool e]] W fun en W' => en = .returned (.tuple #[.int .i64 0, .int .i64 1]) ∧ Below W.heap.size W W' := by
  have HO := Lib.hid (fun w => i_ValidControl m o a b e w)
  rw [hm] at HO
  clear hm
  go_enter Try.func48, Try.ntmps48
  go_wp2_with (go_at_call 86; refine (HO.out _).mono ?_; rintro e w2 ⟨rfl, hb2⟩)
  go_ret2
  exact ⟨rfl, kept_trans (kept_alloc (Below.refl _ _) _) hb2⟩

theorem few_all : all80 (fun x => withX x fun L ms => Nat.ble (Nat.succ (nth (stepsAt L.length ms (fst7 ms)) (nthM ms (fst7 ms)).1)) 20) 80 = true := by decide +kernel
theorem few_le {x : Nat} (hx : x < 80) : few x ≤ 20 := by
  have h := all80_out few_all x hx
  rw [withX_eq, Nat.ble_eq] at h
  exact h
theorem few_pos (x : Nat) : 1 ≤ few x := by unfold few; omega

set_option maxHeartbeats 800000 in
theorem i_FewestToRide_yes (x : Nat) (W : World) (hx : x < 80) : Calls Try.prog 48 #[.agg #[.int .i64 (cm x : Nat), .bool (co x), .bool (ca x), .bool (cb x), .bool (ce x)]] W fun en W' => en = .returned (.tuple #[.int .i64 (few x : Nat), .int .i64 0]) ∧ Below W.heap.size W W' := by
  have KB := kept_alloc (Below.refl W.heap.size W) (.cells #[.int .i64 (cm x : Nat), .bool (co x), .bool (ca x), .bool (cb x), .bool (ce x)] 53)
  have hm0 : inB (cm x : Nat) 0 4 = true := inB_yes (by omega) (by have := cm_lt hx; omega)
  have Q0 : Hid ((W.alloc (.cells #[.int .i64 (cm x : Nat), .bool (co x), .bool (ca x), .bool (cb x), .bool (ce x)] 53)).cell? ⟨W.heap.size, 0, none⟩ = some (.int .i64 (cm x : Nat))) := boxed_at rfl rfl
  have Q1 : Hid ((W.alloc (.cells #[.int .i64 (cm x : Nat), .bool (co x), .bool (ca x), .bool (cb x), .bool (ce x)] 53)).cell? ⟨W.heap.size, 1, none⟩ = some (.bool (co x))) := boxed_at rfl rfl
  have Q2 : Hid ((W.alloc (.cells #[.int .i64 (cm x : Nat), .bool (co x), .bool (ca x), .bool (cb x), .bool (ce x)] 53)).cell? ⟨W.heap.size, 2, none⟩ = some (.bool (ca x))) := boxed_at rfl rfl
  have Q3 : Hid ((W.alloc (.cells #[.int .i64 (cm x : Nat), .bool (co x), .bool (ca x), .bool (cb x), .bool (ce x)] 53)).cell? ⟨W.heap.size, 3, none⟩ = some (.bool (cb x))) := boxed_at rfl rfl
  have Q4 : Hid ((W.alloc (.cells #[.int .i64 (cm x : Nat), .bool (co x), .bool (ca x), .bool (cb x), .bool (ce x)] 53)).cell? ⟨W.heap.size, 4, none⟩ = some (.bool (ce x))) := boxed_at rfl rfl
  have HO := Lib.hid (fun w => i_ValidControl (cm x : Nat) (co x) (ca x) (cb x) (ce x) w)
  rw [hm0] at HO
  have HRc := Lib.hid (fun w => i_toRide x w hx)
  have hp := few_pos x
  generalize few x = FF at *
  clear hm0
  go_enter Try.func48, Try.ntmps48
  go_wp2_with (first | (go_at_call 86; refine (HO.out _).mono ?_; rintro e w2 ⟨rfl, hb2⟩; have q0 := cell_keep hb2 Q0.out; have q1 := cell_keep hb2 Q1.out; have q2 := cell_keep hb2 Q2.out; have q3 := cell_keep hb2 Q3.out; have q4 := cell_keep hb2 Q4.out) | (go_at_call 91; refine (HRc.out _).mono ?_; rintro e w3 ⟨rfl, hb3⟩))
  go_ret2
  exact ⟨rfl, kept_trans (kept_trans KB hb2) hb3⟩

set_option maxHeartbeats 800000 in
theorem s_FewestToRide_yes (x : Nat) (W : World) (hx : x < 80) : Calls Try.prog 47 #[.agg #[.int .i64 (cm x : Nat), .bool (co x), .bool (ca x), .bool (cb x), .bool (ce x)]] W fun en W' => en = .returned (.tuple #[.int .i64 (few x : Nat), .int .i64 0]) ∧ Below W.heap.size W W' := by
  have KB := kept_alloc (Below.refl W.heap.size W) (.cells #[.int .i64 (cm x : Nat), .bool (co x), .bool (ca x), .bool (cb x), .bool (ce x)] 53)
  have hm0 : inB (cm x : Nat) 0 4 = true := inB_yes (by omega) (by have := cm_lt hx; omega)
  have Q0 : Hid ((W.alloc (.cells #[.int .i64 (cm x : Nat), .bool (co x), .bool (ca x), .bool (cb x), .bool (ce x)] 53)).cell? ⟨W.heap.size, 0, none⟩ = some (.int .i64 (cm x : Nat))) := boxed_at rfl rfl
  have Q1 : Hid ((W.alloc (.cells #[.int .i64 (cm x : Nat), .bool (co x), .bool (ca x), .bool (cb x), .bool (ce x)] 53)).cell? ⟨W.heap.size, 1, none⟩ = some (.bool (co x))) := boxed_at rfl rfl
  have Q2 : Hid ((W.alloc (.cells #[.int .i64 (cm x : Nat), .bool (co x), .bool (ca x), .bool (cb x), .bool (ce x)] 53)).cell? ⟨W.heap.size, 2, none⟩ = some (.bool (ca x))) := boxed_at rfl rfl
  have Q3 : Hid ((W.alloc (.cells #[.int .i64 (cm x : Nat), .bool (co x), .bool (ca x), .bool (cb x), .bool (ce x)] 53)).cell? ⟨W.heap.size, 3, none⟩ = some (.bool (cb x))) := boxed_at rfl rfl
  have Q4 : Hid ((W.alloc (.cells #[.int .i64 (cm x : Nat), .bool (co x), .bool (ca x), .bool (cb x), .bool (ce x)] 53)).cell? ⟨W.heap.size, 4, none⟩ = some (.bool (ce x))) := boxed_at rfl rfl
  have HO := Lib.hid (fun w h => s_l13Ok (cm x : Nat) W.heap.size 0 w h)
  rw [hm0] at HO
  have HRc := Lib.hid (fun w => s_l15Reached x w hx)
  unfold SReachPost at HRc
  have HMv := Lib.hid (fun v w h => s_l15Moves x v w hx h)
  unfold SMovesPost at HMv
  have HRi := Lib.hid (fun v vm w h1 h2 => s_l15Ride x v vm w hx h1 h2)
  unfold FarPost at HRi
  have hR20 : (R x).length ≤ 20 := (chk0_out hx).2.2.1
  have hR1 := R_pos hx
  have hM45 : (M x).length ≤ 45 := (chk0_out hx).2.2.2.1
  have hp := few_pos x
  have hp20 := few_le hx
  have HF0 := Lib.hid (chk7_out hx).1
  clear hm0
  generalize few x = FF at *
  generalize far (R x).length (M x) (goals7 (M x)) = FR at *
  generalize M x = ms at *
  generalize R x = L at *
  obtain ⟨n, hn⟩ : ∃ n, ms.length = n := ⟨_, rfl⟩
  obtain ⟨nL, hnL⟩ : ∃ n, L.length = n := ⟨_, rfl⟩
  rw [hn] at HMv HRi hM45
  rw [hnL] at HRc HMv HRi hR20 hR1
  clear hn hnL
  have q0 := Q0.out
  have q1 := Q1.out
  have q2 := Q2.out
  have q3 := Q3.out
  have q4 := Q4.out
  go_enter Try.func47, Try.ntmps47
  go_wp2_with (first | (go_at_call 83; refine (HO.out _ Q0.out).mono ?_; rintro e w' ⟨rfl, rfl⟩) | (go_at_call 85; refine (HRc.out _).mono ?_; rintro e w3 ⟨v1, rfl, hb3, ho1⟩) | (go_at_call 84; refine (HMv.out _ _ (ho1.sl (by omega))).mono ?_; rintro e w4 ⟨v2, rfl, hb4, ho2⟩) | (go_at_call 90; refine (HRi.out _ _ _ ((ho1.sl (by omega)).kept hb4) (ho2.sl (by omega))).mono ?_; rintro e w5 ⟨v3, rfl, hb5, ho3⟩; obtain ⟨g3, cap3, rfl, -, hr3⟩ := ho3.opened (by omega); have z0 := hr3.cell (i := 0) (by omega); unfold fc at z0; rw [HF0.out] at z0; have z1 : w5.cell? ⟨g3, 0, none⟩ = some (.int .i64 ((FF : Int) - 1)) := z0; clear z0 hr3))
  go_ret2
  exact ⟨ret2 (by omega) rfl, kept_trans (kept_trans (kept_trans KB hb3) hb4) hb5⟩

theorem l_FewestToRide (m : Int) (o a b e : Bool) (W : World) : Calls Try.prog 9 #[.agg #[.int .i64 m, .bool o, .bool a, .bool b, .bool e]] W (Truly W) := by
  cases hm : inB m 0 4
  · exact l_FewestToRide_of m o a b e 0 1 (fun w => s_FewestToRide_no m o a b e w hm) (fun w => i_FewestToRide_no m o a b e w hm)
  · obtain ⟨h0, h4⟩ := inB_out hm
    obtain ⟨c, hc, rfl, rfl, rfl, rfl, rfl⟩ := st_code (o := o) (a := a) (b := b) (e := e) h0 h4
    exact l_FewestToRide_of _ _ _ _ _ (few c : Nat) 0 (fun w => s_FewestToRide_yes c w hc) (fun w => i_FewestToRide_yes c w hc)

end Go.Proofs.Ytkloolhngddpiaa
