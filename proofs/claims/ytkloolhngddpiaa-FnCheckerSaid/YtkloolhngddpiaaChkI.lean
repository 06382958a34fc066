/- How many moves have each event. -/
import Derived.Test.YtkloolhngddpiaaChkF
namespace Go.Proofs.Ytkloolhngddpiaa
open Go.RowKit Go.Deep
set_option linter.unusedVariables false
set_option maxRecDepth 100000

theorem Out.setcell {w : World} {B k n : Nat} {e : TypeId} {v : Value} {f : Nat → Value} (h : Out w B e k v n f) (g j : Nat) (u : Value) (hne : ∀ b, v.ownBlock = some b → b ≠ g) : Out (w.setCell ⟨g, j, none⟩ u) B e k v n f :=
  World.ownsRow.kept (row := some g) h (grown_set (World.grownBy.refl _ _) j u) (by
    cases hv : v.ownBlock with
    | none => exact .inl rfl
    | some b => right; intro hh; simp only [Option.some.injEq] at hh; exact hne b hv hh)
def cntK (ms : List (Nat × Nat × Nat)) : Nat → Nat → Nat
  | 0, _ => 0
  | k + 1, j => if j = (nthM ms k).2.1 then cntK ms k j + 1 else cntK ms k j
theorem cntK_le (ms : List (Nat × Nat × Nat)) (k j : Nat) : cntK ms k j ≤ k := by
  induction k with
  | zero => exact Nat.le_refl _
  | succ k ih => simp only [cntK]; split <;> omega
theorem cntK_row {w : World} {g k e d : Nat} {t : TypeId} {ms : List (Nat × Nat × Nat)} (h : w.rowIs g t 10 (ic fun j => ((cntK ms k j : Nat) : Int))) (he : (nthM ms k).2.1 = e) (hd : cntK ms k e = d) :
    (w.setCell ⟨g, e, none⟩ (.int .i64 ((d : Nat) + 1))).rowIs g t 10 (ic fun j => ((cntK ms (k + 1) j : Nat) : Int)) := by
  refine (h.set e _).congr (fun i hi => ?_)
  simp only [ic, cntK, he]
  by_cases e2 : i = e
  · subst e2
    simp [hd]
  · simp [e2]
attribute [irreducible] cntK

def MvPost (x : Nat) (W : World) (en : Ending) (W' : World) : Prop := ∃ v1, en = .returned (.tuple #[v1, .int .i64 0]) ∧ Below W.heap.size W W' ∧ Out W' W.heap.size 2 1 v1 10 (ic fun j => ((cntK (M x) (M x).length j : Nat) : Int))

theorem out_of_rowIs {w : World} {B g n : Nat} {t : TypeId} {f : Nat → Value} (h : w.rowIs g t n f) (hB : B ≤ g) (hn : n ≤ maxLen) : Out w B t 1 (.slice (some ⟨g, 0, none⟩) n n) n f := by
  obtain ⟨c, hc, hs, hf⟩ := h
  refine ⟨by simp [cellsN], .inr ⟨g, n, c, rfl, hB, hc, Nat.le_refl _, hn, by omega, ?_⟩⟩
  rw [Nat.mul_one]
  apply List.ext_getElem?
  intro i
  by_cases hi : i < n
  · rw [List.getElem?_take_of_lt hi]
    have := hf i hi
    rw [← Array.getElem?_toList] at this
    rw [this]
    simp [cellsN, hi]
  · rw [List.getElem?_eq_none (by simp; omega), List.getElem?_eq_none (by simp [cellsN]; omega)]

set_option maxHeartbeats 1600000 in
theorem s_MovesOf (x : Nat) (W : World) (hx : x < 80) :
    Calls Try.prog 34 #[.agg #[.int .i64 (cm x : Nat), .bool (co x), .bool (ca x), .bool (cb x), .bool (ce x)]] W (MvPost x W) := by
  have hmk : ∀ w, (Instr.makeSlice 35 (.int .i64 10) (.int .i64 10)).run Try.prog w = .ok (.slice (some ⟨w.heap.size, 0, none⟩) 10 10) (w.alloc (.cells (madeCells #[.int .i64 0] 10) 2)) := fun w => run_make_row' (P := Try.prog) 35 2 (.int .i64 0) 8 Try.underlying35 infoInt rfl .i64 .i64 10 (by omega) (by omega) w
  have KB := kept_alloc (Below.refl W.heap.size W) (.cells #[.int .i64 (cm x : Nat), .bool (co x), .bool (ca x), .bool (cb x), .bool (ce x)] 53)
  have hm0 : inB (cm x : Nat) 0 4 = true := inB_yes (by omega) (by have := cm_lt hx; omega)
  have HO := Lib.hid (fun w h => s_l13Ok (cm x : Nat) W.heap.size 0 w h)
  rw [hm0] at HO
  have HRc := Lib.hid (fun w => s_l15Reached x w hx)
  have HMv := Lib.hid (fun v w h => s_l15Moves x v w hx h)
  unfold SReachPost at HRc
  unfold SMovesPost at HMv
  have hM45 : (M x).length ≤ 45 := (chk0_out hx).2.2.2.1
  have hR20 : (R x).length ≤ 20 := (chk0_out hx).2.2.1
  have HMI := Lib.hid (fun i h => M_in (x := x) hx (i := i) h)
  have hMpos : 0 < (M x).length := by have := (chk0_out hx).2.2.2.2; omega
  unfold MvPost
  generalize M x = ms at *
  generalize R x = L at *
  obtain ⟨n, hn⟩ : ∃ n, ms.length = n := ⟨_, rfl⟩
  obtain ⟨nL, hnL⟩ : ∃ n, L.length = n := ⟨_, rfl⟩
  rw [hnL] at HRc HMv hR20
  rw [hn] at HMv HMI hM45 hMpos ⊢
  clear hm0 hn hnL
  have q0 : (W.alloc (.cells #[.int .i64 (cm x : Nat), .bool (co x), .bool (ca x), .bool (cb x), .bool (ce x)] 53)).cell? ⟨W.heap.size, 0, none⟩ = some (.int .i64 (cm x : Nat)) := boxed_at rfl rfl
  have HQ0 := Lib.hid q0
  clear q0
  go_enter Try.func34, Try.ntmps34
  go_wp2_with (first | (go_at_call 83; refine (HO.out _ HQ0.out).mono ?_; rintro e w' ⟨rfl, rfl⟩) | (go_at_call 85; refine (HRc.out _).mono ?_; rintro e w2 ⟨v1, rfl, hb2, ho1⟩) | (go_at_call 84; refine (HMv.out _ _ (ho1.sl (by omega))).mono ?_; rintro e w3 ⟨v2, rfl, hb3, ho2⟩; obtain ⟨gm, capm, rfl, hgm, hrm⟩ := ho2.opened (by omega)))
  have KW : Below W.heap.size W (w3.alloc (.cells (madeCells #[.int .i64 0] 10) 2)) := kept_alloc (kept_trans (kept_trans KB hb2) hb3) _
  have hrow0 : (w3.alloc (.cells (madeCells #[.int .i64 0] 10) 2)).rowIs w3.heap.size 2 10 (ic fun j => ((cntK ms 0 j : Nat) : Int)) := (World.rowIs_made w3 _ 10 2).congr (fun i hi => by simp [ic, show cntK ms 0 i = 0 by unfold cntK; rfl])
  have HRm := Lib.hid (hrm.kept (kept_alloc (Below.refl _ _) (.cells (madeCells #[.int .i64 0] 10) 2)))
  have hne : some gm ≠ some w3.heap.size := by have := hrm.1; simp; omega
  have hszW : W.heap.size ≤ w3.heap.size := (kept_trans (kept_trans KB hb2) hb3).size
  obtain ⟨wl, hwl⟩ : ∃ wl, wl = w3.alloc (.cells (madeCells #[.int .i64 0] 10) 2) := ⟨_, rfl⟩
  rw [← hwl] at KW hrow0 HRm
  have HWL := Lib.hid hwl
  clear hwl hrm ho1 ho2 hb2 hb3 HO HRc HMv hmk HQ0
  rw [← HWL.out]
  go_loopw [6] (fun i wr => ∃ k : Nat, k ≤ n ∧ i = .int .i64 k ∧ wl.grownBy wr (some w3.heap.size) ∧ wr.rowIs w3.heap.size 2 10 (ic fun j => ((cntK ms k j : Nat) : Int))) (fun i _ => n - (intOf i).toNat)
  case atStart => exact ⟨0, Nat.zero_le _, rfl, World.grownBy.refl _ _, hrow0⟩
  case round =>
    clear hrow0
    obtain ⟨k, hk, rfl, hg, hrow⟩ := hrel
    by_cases hlt : k < n
    · obtain ⟨f, e, t, hm⟩ : ∃ f e t, nthM ms k = (f, e, t) := ⟨_, _, _, rfl⟩
      have hmi := HMI.out k hlt
      rw [hm] at hmi
      obtain ⟨-, -, he1, he9⟩ := hmi
      simp only at he1 he9
      obtain ⟨s0, s1, s2⟩ := mvcells (HRm.out.far hg hne) hlt hm
      simp only [Nat.zero_add] at s0 s1 s2
      obtain ⟨d, hd⟩ : ∃ d, cntK ms k e = d := ⟨_, rfl⟩
      have hdk : d ≤ k := by rw [← hd]; exact cntK_le _ _ _
      have c0 := hrow.cell (i := e) (by omega)
      have f0 := hrow.frozen e
      simp only [ic, hd] at c0
      have R1 := Lib.hid (cntK_row hrow (by rw [hm]) hd)
      have G1 := Lib.hid (grown_set hg e (.int .i64 ((d : Nat) + 1)))
      have he10 : (e : Int) < 10 := by omega
      have he0 : (0 : Int) ≤ e := by omega
      clear hrow hg hm hd
      go_wp2
      go_roundw
      case rel => exact ⟨k + 1, by omega, by go_num, G1.out, R1.out⟩
      case measure => simp [intOf]; omega
    · obtain rfl : k = n := by omega
      have R1 := Lib.hid (out_of_rowIs (B := W.heap.size) hrow hszW (by simp [maxLen]))
      have B1 := Lib.hid (kept_grown KW hg (fun b hb => by simp only [Option.some.injEq] at hb; omega))
      clear hrow hg
      go_wp2
      refine bodyPost_ret (results_tmp2 rfl _ _ _) rfl ⟨_, rfl, B1.out, R1.out⟩

set_option maxHeartbeats 1600000 in
theorem i_MovesOf (x : Nat) (W : World) (hx : x < 80) :
    Calls Try.prog 36 #[.agg #[.int .i64 (cm x : Nat), .bool (co x), .bool (ca x), .bool (cb x), .bool (ce x)]] W (MvPost x W) := by
  have hmk : ∀ w, (Instr.makeSlice 35 (.int .i64 10) (.int .i64 10)).run Try.prog w = .ok (.slice (some ⟨w.heap.size, 0, none⟩) 10 10) (w.alloc (.cells (madeCells #[.int .i64 0] 10) 2)) := fun w => run_make_row' (P := Try.prog) 35 2 (.int .i64 0) 8 Try.underlying35 infoInt rfl .i64 .i64 10 (by omega) (by omega) w
  have KB := kept_alloc (Below.refl W.heap.size W) (.cells #[.int .i64 (cm x : Nat), .bool (co x), .bool (ca x), .bool (cb x), .bool (ce x)] 53)
  have hm0 : inB (cm x : Nat) 0 4 = true := inB_yes (by omega) (by have := cm_lt hx; omega)
  have HO := Lib.hid (fun w => i_ValidControl (cm x : Nat) (co x) (ca x) (cb x) (ce x) w)
  rw [hm0] at HO
  have HRc := Lib.hid (fun w => i_reached x w hx)
  unfold ReachPost at HRc
  have hM45 : (M x).length ≤ 45 := (chk0_out hx).2.2.2.1
  have HMI := Lib.hid (fun i h => M_in (x := x) hx (i := i) h)
  have hMpos : 0 < (M x).length := by have := (chk0_out hx).2.2.2.2; omega
  unfold MvPost
  generalize M x = ms at *
  generalize R x = L at *
  obtain ⟨n, hn⟩ : ∃ n, ms.length = n := ⟨_, rfl⟩
  rw [hn] at HRc HMI hM45 hMpos ⊢
  clear hm0 hn
  have Q0 : Hid ((W.alloc (.cells #[.int .i64 (cm x : Nat), .bool (co x), .bool (ca x), .bool (cb x), .bool (ce x)] 53)).cell? ⟨W.heap.size, 0, none⟩ = some (.int .i64 (cm x : Nat))) := boxed_at rfl rfl
  have Q1 : Hid ((W.alloc (.cells #[.int .i64 (cm x : Nat), .bool (co x), .bool (ca x), .bool (cb x), .bool (ce x)] 53)).cell? ⟨W.heap.size, 1, none⟩ = some (.bool (co x))) := boxed_at rfl rfl
  have Q2 : Hid ((W.alloc (.cells #[.int .i64 (cm x : Nat), .bool (co x), .bool (ca x), .bool (cb x), .bool (ce x)] 53)).cell? ⟨W.heap.size, 2, none⟩ = some (.bool (ca x))) := boxed_at rfl rfl
  have Q3 : Hid ((W.alloc (.cells #[.int .i64 (cm x : Nat), .bool (co x), .bool (ca x), .bool (cb x), .bool (ce x)] 53)).cell? ⟨W.heap.size, 3, none⟩ = some (.bool (cb x))) := boxed_at rfl rfl
  have Q4 : Hid ((W.alloc (.cells #[.int .i64 (cm x : Nat), .bool (co x), .bool (ca x), .bool (cb x), .bool (ce x)] 53)).cell? ⟨W.heap.size, 4, none⟩ = some (.bool (ce x))) := boxed_at rfl rfl
  go_enter Try.func36, Try.ntmps36
  go_wp2_with (first | (go_at_call 86; refine (HO.out _).mono ?_; rintro e w2 ⟨rfl, hb2⟩; have hk2 := kept_alloc hb2 (.cells (madeCells #[.int .i64 0] 10) 2); have q0 := cell_keep hk2 Q0.out; have q1 := cell_keep hk2 Q1.out; have q2 := cell_keep hk2 Q2.out; have q3 := cell_keep hk2 Q3.out; have q4 := cell_keep hk2 Q4.out) | (go_at_call 87; refine (HRc.out _).mono ?_; rintro e w3 ⟨v1, v2, rfl, hb3, ho1, ho2⟩; obtain ⟨gm, capm, rfl, hgm, hrm⟩ := ho2.opened (by omega)))
  have hrow2 : (w2.alloc (.cells (madeCells #[.int .i64 0] 10) 2)).rowIs w2.heap.size 2 10 (ic fun j => ((cntK ms 0 j : Nat) : Int)) := (World.rowIs_made w2 _ 10 2).congr (fun i hi => by simp [ic, show cntK ms 0 i = 0 by unfold cntK; rfl])
  have hrow0 := hrow2.of_block (hb3.block _ hrow2.lt)
  have KW : Below W.heap.size W w3 := kept_trans (kept_trans KB hk2) hb3
  have hszW : W.heap.size ≤ w2.heap.size := (kept_trans KB hb2).size
  have hgm2 : w2.heap.size < gm := by simp at hgm; omega
  have ho2' := ho2.base_le (B := w2.heap.size + 1) (by simp)
  clear hrm ho1 ho2 hb2 hb3 HO HRc hmk Q0 Q1 Q2 Q3 Q4 q0 q1 q2 q3 q4 hrow2 hk2 KB
  go_loopw [20] (fun i wr => ∃ k : Nat, k ≤ n ∧ i = .int .i64 k ∧ Below W.heap.size W wr ∧ Out wr (w2.heap.size + 1) 77 3 (.slice (some ⟨gm, 0, none⟩) n capm) n (mvc ms) ∧ wr.rowIs w2.heap.size 2 10 (ic fun j => ((cntK ms k j : Nat) : Int))) (fun i _ => n - (intOf i).toNat)
  case atStart => exact ⟨0, Nat.zero_le _, rfl, KW, ho2', hrow0⟩
  case round =>
    clear hrow0 KW ho2'
    obtain ⟨k, hk, rfl, hb, hmv, hrow⟩ := hrel
    by_cases hlt : k < n
    · obtain ⟨f, e, t, hm⟩ : ∃ f e t, nthM ms k = (f, e, t) := ⟨_, _, _, rfl⟩
      have hmi := HMI.out k hlt
      rw [hm] at hmi
      obtain ⟨-, -, he1, he9⟩ := hmi
      simp only at he1 he9
      obtain ⟨s0, s1, s2⟩ := mvcells hmv.row_at hlt hm
      simp only [Nat.zero_add] at s0 s1 s2
      obtain ⟨d, hd⟩ : ∃ d, cntK ms k e = d := ⟨_, rfl⟩
      have hdk : d ≤ k := by rw [← hd]; exact cntK_le _ _ _
      have hgl := hrow.lt
      have KA := kept_alloc (Below.refl wr.heap.size wr) (.cells #[.int .i64 (f : Nat), .int .i64 (e : Nat), .int .i64 (t : Nat)] 77)
      have hrowA := hrow.of_block (KA.block _ hgl)
      have c0 := hrowA.cell (i := e) (by omega)
      have f0 := hrowA.frozen e
      simp only [ic, hd] at c0
      have RS := cntK_row hrow (by rw [hm]) hd
      have KS := kept_alloc (Below.refl _ (wr.setCell ⟨w2.heap.size, e, none⟩ (.int .i64 ((d : Nat) + 1)))) (.cells #[.int .i64 (f : Nat), .int .i64 (e : Nat), .int .i64 (t : Nat)] 77)
      have R1 := Lib.hid (RS.of_block (KS.block _ RS.lt))
      have M1 := Lib.hid ((hmv.setcell w2.heap.size e (.int .i64 ((d : Nat) + 1)) (fun b hb => by simp only [Value.ownBlock, Option.some.injEq] at hb; omega)).kept KS)
      have B1 := Lib.hid (kept_trans (kept_set hb (p := ⟨w2.heap.size, e, none⟩) hszW (.int .i64 ((d : Nat) + 1))) KS)
      have he10 : (e : Int) < 10 := by omega
      have he0 : (0 : Int) ≤ e := by omega
      clear hrow hrowA hb hm hd hmv KA RS KS
      go_wp2
      go_roundw
      case rel => exact ⟨k + 1, by omega, by go_num, B1.out, M1.out, R1.out⟩
      case measure => simp [intOf]; omega
    · obtain rfl : k = n := by omega
      have R1 := Lib.hid (out_of_rowIs (B := W.heap.size) hrow hszW (by simp [maxLen]))
      clear hrow
      go_wp2
      refine bodyPost_ret (results_tmp2 rfl _ _ _) rfl ⟨_, rfl, hb, R1.out⟩

end Go.Proofs.Ytkloolhngddpiaa
