/- The way to a state: the program's walk. -/
import Derived.Test.YtkloolhngddpiaaRev
import Derived.Test.YtkloolhngddpiaaChkW
import Derived.Test.YtkloolhngddpiaaChkI
import Derived.Test.YtkloolhngddpiaaRide
import Derived.Deep.DeepCutAuto
namespace Go.Proofs.Ytkloolhngddpiaa
open Go.RowKit Go.Deep
set_option linter.unusedVariables false
set_option maxRecDepth 100000

theorem fstTo_ne {ms : List (Nat × Nat × Nat)} {y i : Nat} (h : i < fstTo ms y) : (nthM ms i).2.2 ≠ y := by
  induction ms generalizing i with
  | nil => simp [fstTo] at h
  | cons m ms ih =>
    cases e : Nat.beq m.2.2 y
    · simp only [fstTo, e, cond_false] at h
      cases i with
      | zero => intro h7; rw [show (nthM (m :: ms) 0) = m from rfl] at h7; rw [h7, Nat.beq_refl] at e; cases e
      | succ i => exact ih (by simpa using h)
    · simp only [fstTo, e, cond_true] at h; omega
theorem fstTo_at {ms : List (Nat × Nat × Nat)} {y : Nat} (h : fstTo ms y < ms.length) : (nthM ms (fstTo ms y)).2.2 = y := by
  induction ms with
  | nil => simp at h
  | cons m ms ih =>
    cases e : Nat.beq m.2.2 y
    · have e2 : fstTo (m :: ms) y = fstTo ms y + 1 := by simp only [fstTo, e, cond_false]
      rw [e2] at h ⊢
      exact ih (by simpa using h)
    · have e2 : fstTo (m :: ms) y = 0 := by simp only [fstTo, e, cond_true]
      rw [e2]
      exact Nat.eq_of_beq_eq_true e

theorem i_Way1 (f e t y bx : Nat) (W : World) (hc : W.cell? ⟨bx, 0, none⟩ = some (.int .i64 (y : Nat))) :
    Calls Try.prog 96 #[.agg #[.int .i64 (f : Nat), .int .i64 (e : Nat), .int .i64 (t : Nat)], .pointer (some ⟨bx, 0, none⟩)] W fun en W' => en = .returned (.bool (decide (t = y))) ∧ Below W.heap.size W W' := by
  have hc2 := cell_keep (kept_alloc (Below.refl _ _) (.cells #[.int .i64 (f : Nat), .int .i64 (e : Nat), .int .i64 (t : Nat)] 77)) hc
  by_cases h : t = y
  · subst h
    go_enter Try.func96, Try.ntmps96
    go_wp2
    go_ret
    exact ⟨by simp, kept_alloc (Below.refl _ _) _⟩
  · have hd : ((t : Int) == y) = false := by simp; omega
    go_enter Try.func96, Try.ntmps96
    go_wp2
    go_ret
    exact ⟨ret_bool (by simp [h]), kept_alloc (Below.refl _ _) _⟩
theorem way_enters : ∀ args w, (callFunc 96 args).run Try.prog w = .ok (.enter 96 args) w := enters Try.func96 (by kernel_rfl) rfl

set_option maxHeartbeats 800000 in
theorem i_WayIndex (g n cap y bx b : Nat) (ms : List (Nat × Nat × Nat)) (W : World) (hr : Row W g 0 (n * 3) (mvc ms)) (hn : n ≤ 45) (HL : Hid (ms.length = n)) (hb : Hid (fstTo ms y = b)) (hbn : b < n) (hc : W.cell? ⟨bx, 0, none⟩ = some (.int .i64 (y : Nat))) :
    Calls Try.prog 95 #[.slice (some ⟨g, 0, none⟩) n cap, .func (.func 96) #[] #[.pointer (some ⟨bx, 0, none⟩)]] W fun en W' => en = .returned (.int .i64 (b : Nat)) ∧ Below W.heap.size W W' := by
  have eg := way_enters
  have HR := Lib.hid hr
  have HC := Lib.hid hc
  have HNE := Lib.hid (fun i (h : i < b) => fstTo_ne (ms := ms) (y := y) (i := i) (by rw [hb.out]; exact h))
  have HAT := Lib.hid (fstTo_at (ms := ms) (y := y) (by rw [hb.out, HL.out]; exact hbn))
  clear hr hc
  go_enter Try.func95, Try.ntmps95
  go_wp2
  go_loopw [8] (fun i wr => ∃ k : Nat, k ≤ b ∧ i = .int .i64 k ∧ Below W.heap.size W wr) (fun i _ => n - (intOf i).toNat)
  case atStart => exact ⟨0, by omega, rfl, Below.refl _ _⟩
  case round =>
    obtain ⟨k, hk, rfl, hbw⟩ := hrel
    have hlt : k < n := by omega
    obtain ⟨f, e, t, hm⟩ : ∃ f e t, nthM ms k = (f, e, t) := ⟨_, _, _, rfl⟩
    obtain ⟨s0, s1, s2⟩ := mvcells (HR.out.kept hbw) hlt hm
    simp only [Nat.zero_add] at s0 s1 s2
    have hcall := Lib.hid (i_Way1 f e t y bx wr (cell_keep hbw HC.out))
    by_cases hkb : k = b
    · have ht : t = y := by have := HAT.out; rw [hb.out, ← hkb, hm] at this; exact this
      have hd : decide (t = y) = true := by simpa using ht
      rw [hd] at hcall
      have HKB := Lib.hid hkb
      clear hm ht hd hkb
      go_wp2_with fail
      refine hcall.out.mono ?_
      rintro e' w1 ⟨rfl, hb1⟩
      clear hcall s0 s1 s2
      go_wp2_with fail
      go_ret
      exact ⟨by rw [← HKB.out]; rfl, kept_trans hbw hb1⟩
    · have ht : t ≠ y := by have := HNE.out k (by omega); rw [hm] at this; exact this
      have hd : decide (t = y) = false := by simpa using ht
      rw [hd] at hcall
      have hkb' : k < b := by omega
      clear hm ht hd hkb
      go_wp2_with fail
      refine hcall.out.mono ?_
      rintro e' w1 ⟨rfl, hb1⟩
      clear hcall s0 s1 s2
      go_wp2_with fail
      go_roundw
      case rel => exact ⟨k + 1, by omega, by go_num, kept_trans hbw hb1⟩
      case measure => simp [intOf]; omega

def evL (ms : List (Nat × Nat × Nat)) (P : List Nat) : List Nat := P.map fun b => (nthM ms b).2.1
theorem chkI_out {ms : List (Nat × Nat × Nat)} {y : Nat} {P : List Nat} (h : chkI ms y P = true) (hy : y ≠ 0) : ∃ b P', P = b :: P' ∧ fstTo ms y = b ∧ b < ms.length ∧ chkI ms (nthM ms b).1 P' = true := by
  cases P with
  | nil => exact absurd (Nat.eq_of_beq_eq_true h) hy
  | cons b P' =>
    simp only [chkI, Bool.and_eq_true] at h
    exact ⟨b, P', rfl, Nat.eq_of_beq_eq_true h.2.1, by simpa using h.2.2.1, h.2.2.2⟩
theorem chkI_end {ms : List (Nat × Nat × Nat)} {P : List Nat} (h : chkI ms 0 P = true) : P = [] := by
  cases P with
  | nil => rfl
  | cons b P' => simp [chkI] at h
theorem Out.split1 {w : World} {B n : Nat} {e : TypeId} {v : Value} {f : Nat → Value} (h : Out w B e 1 v n f) : (v = .slice none 0 0 ∧ n = 0) ∨ ∃ g cap F, v = .slice (some ⟨g, 0, none⟩) n cap ∧ B ≤ g ∧ cap ≤ maxLen ∧ n ≤ cap ∧ w.rowIs g e cap F ∧ ∀ j, j < n → F j = f j := by
  rcases h.2 with h1 | ⟨g, cap, cur, h1, h2, h3, h4, h5, h6, h7⟩
  · exact .inl h1
  · refine .inr ⟨g, cap, fun i => cur.getD i undef, h1, h2, h5, h4, ⟨cur, h3, by omega, fun i hi => by simp [Array.getD, show i < cur.size by omega]⟩, fun i hi => ?_⟩
    have h8 := cellsN_getD (f := f) (m := n * 1) (j := i) (by omega)
    have h9 : (cellsN f (n * 1)).getD i undef = cur.getD i undef := by
      rw [← h7]
      simp [List.getD, Array.getD, show i < n by omega, show i < cur.size by omega]
    rw [h9] at h8
    exact h8
theorem out_of_row {w : World} {B g n N : Nat} {t : TypeId} {F f : Nat → Value} (h : w.rowIs g t N F) (hF : ∀ j, j < n → F j = f j) (hn : n ≤ N) (hB : B ≤ g) (hN : N ≤ maxLen) : Out w B t 1 (.slice (some ⟨g, 0, none⟩) n N) n f := by
  obtain ⟨c, hc, hs, hf⟩ := h
  refine ⟨by simp [cellsN], .inr ⟨g, N, c, rfl, hB, hc, hn, hN, by omega, ?_⟩⟩
  rw [Nat.mul_one]
  apply List.ext_getElem?
  intro i
  by_cases hi : i < n
  · rw [List.getElem?_take_of_lt hi]
    have := hf i (by omega)
    rw [← Array.getElem?_toList] at this
    rw [this, hF i hi]
    simp [cellsN, hi]
  · rw [List.getElem?_eq_none (by simp; omega), List.getElem?_eq_none (by simp [cellsN]; omega)]
theorem i_Reverse_nil (W : World) : Calls Try.prog 97 #[.slice none 0 0] W fun en W' => en = .returned (.tuple #[]) ∧ W = W' := by
  go_enter Try.func97, Try.ntmps97
  go_wp2
  refine wp_loop_rounds 1 ?_
  rw [rounds_succ]
  go_wp2
  refine bodyPost_end (results_none rfl _ _ _) rfl ⟨rfl, rfl⟩
theorem nth_rev {l : List Nat} {j : Nat} (h : j < l.length) : nth l.reverse j = nth l (l.length - 1 - j) := by
  have key : ∀ (l : List Nat) (i : Nat), i < l.length → nth l i = l.getD i 0 := by
    intro l
    induction l with
    | nil => intro i hi; simp at hi
    | cons a l ih => intro i hi; cases i with
      | zero => rfl
      | succ i => simpa [nth] using ih i (by simpa using hi)
  rw [key _ _ (by simpa using h), key _ _ (by omega)]
  simp [List.getD, List.getElem?_reverse h]
theorem one_row (w : World) (v : Value) (t : TypeId) : (w.alloc (.cells #[v] t)).rowIs w.heap.size t 1 (fun _ => v) := by
  refine ⟨#[v], heap_alloc_new w _, rfl, fun i hi => ?_⟩
  have e : i = 0 := by omega
  subst e
  rfl
/-- The length of a slice's value. -/
def slen : Value → Nat | .slice _ n _ => n | _ => 0

theorem one_set {w : World} {g : Nat} {t : TypeId} {F : Nat → Value} {u : Value} (h : w.rowIs g t 1 F) : (w.setCell ⟨g, 0, none⟩ u).rowIs g t 1 (fun _ => u) := by
  refine (h.set 0 u).congr (fun i hi => ?_)
  have e : i = 0 := by omega
  simp [e]
theorem slen_of {w : World} {B k n : Nat} {e : TypeId} {v : Value} {f : Nat → Value} (h : Out w B e k v n f) : slen v = n := by
  rcases h.2 with ⟨rfl, h2⟩ | ⟨g, cap, cur, rfl, _⟩
  · exact h2.symm
  · rfl
def WyPost (E : List Nat) (W : World) (en : Ending) (W' : World) : Prop := ∃ v1, en = .returned (.tuple #[v1, .int .i64 0]) ∧ Below W.heap.size W W' ∧ Out W' W.heap.size 2 1 v1 E.length (nc E)

set_option maxHeartbeats 3200000 in
theorem i_WayTo_yes (x y k : Nat) (P : List Nat) (W : World) (hx : x < 80) (hy : y < 80) (hh : hasN (R x) y = true) (hk : idxN (R x) y = k) (hP : chkI (M x) k P = true) (hPl : P.length < 20) :
    Calls Try.prog 50 #[.agg #[.int .i64 (cm x : Nat), .bool (co x), .bool (ca x), .bool (cb x), .bool (ce x)], .agg #[.int .i64 (cm y : Nat), .bool (co y), .bool (ca y), .bool (cb y), .bool (ce y)]] W (WyPost (evL (M x) P).reverse W) := by
  obtain ⟨i0, hi, hz0, hz1, hz2⟩ := info_parts infoInt
  have KA := kept_alloc (Below.refl W.heap.size W) (.cells #[.int .i64 (cm x : Nat), .bool (co x), .bool (ca x), .bool (cb x), .bool (ce x)] 53)
  have KB := kept_alloc KA (.cells #[.int .i64 (cm y : Nat), .bool (co y), .bool (ca y), .bool (cb y), .bool (ce y)] 53)
  have hn2 : (W.alloc (.cells #[.int .i64 (cm x : Nat), .bool (co x), .bool (ca x), .bool (cb x), .bool (ce x)] 53)).heap.size = W.heap.size + 1 := by simp
  obtain ⟨WB, hWB⟩ : ∃ WB, WB = (W.alloc (.cells #[.int .i64 (cm x : Nat), .bool (co x), .bool (ca x), .bool (cb x), .bool (ce x)] 53)).alloc (.cells #[.int .i64 (cm y : Nat), .bool (co y), .bool (ca y), .bool (cb y), .bool (ce y)] 53) := ⟨_, rfl⟩
  have P0 : Hid (WB.cell? ⟨W.heap.size, 0, none⟩ = some (.int .i64 (cm x : Nat))) := by rw [hWB]; exact cell_keep (kept_alloc (Below.refl _ _) _) (boxed_at rfl rfl)
  have Q0 : Hid (WB.cell? ⟨W.heap.size + 1, 0, none⟩ = some (.int .i64 (cm y : Nat))) := by rw [hWB]; exact boxed_at hn2 rfl
  have P1 : Hid (WB.cell? ⟨W.heap.size, 1, none⟩ = some (.bool (co x))) := by rw [hWB]; exact cell_keep (kept_alloc (Below.refl _ _) _) (boxed_at rfl rfl)
  have Q1 : Hid (WB.cell? ⟨W.heap.size + 1, 1, none⟩ = some (.bool (co y))) := by rw [hWB]; exact boxed_at hn2 rfl
  have P2 : Hid (WB.cell? ⟨W.heap.size, 2, none⟩ = some (.bool (ca x))) := by rw [hWB]; exact cell_keep (kept_alloc (Below.refl _ _) _) (boxed_at rfl rfl)
  have Q2 : Hid (WB.cell? ⟨W.heap.size + 1, 2, none⟩ = some (.bool (ca y))) := by rw [hWB]; exact boxed_at hn2 rfl
  have P3 : Hid (WB.cell? ⟨W.heap.size, 3, none⟩ = some (.bool (cb x))) := by rw [hWB]; exact cell_keep (kept_alloc (Below.refl _ _) _) (boxed_at rfl rfl)
  have Q3 : Hid (WB.cell? ⟨W.heap.size + 1, 3, none⟩ = some (.bool (cb y))) := by rw [hWB]; exact boxed_at hn2 rfl
  have P4 : Hid (WB.cell? ⟨W.heap.size, 4, none⟩ = some (.bool (ce x))) := by rw [hWB]; exact cell_keep (kept_alloc (Below.refl _ _) _) (boxed_at rfl rfl)
  have Q4 : Hid (WB.cell? ⟨W.heap.size + 1, 4, none⟩ = some (.bool (ce y))) := by rw [hWB]; exact boxed_at hn2 rfl
  have hm0 : inB (cm x : Nat) 0 4 = true := inB_yes (by omega) (by have := cm_lt hx; omega)
  have hm1 : inB (cm y : Nat) 0 4 = true := inB_yes (by omega) (by have := cm_lt hy; omega)
  have HO0 := Lib.hid (fun w => i_ValidControl (cm x : Nat) (co x) (ca x) (cb x) (ce x) w)
  have HO1 := Lib.hid (fun w => i_ValidControl (cm y : Nat) (co y) (ca y) (cb y) (ce y) w)
  rw [hm0] at HO0
  rw [hm1] at HO1
  have HRc := Lib.hid (fun w => i_reached x w hx)
  unfold ReachPost at HRc
  have hR20 : (R x).length ≤ 20 := (chk0_out hx).2.2.1
  have hM45 : (M x).length ≤ 45 := (chk0_out hx).2.2.2.1
  have hM1 : 1 ≤ (M x).length := by have := (chk0_out hx).2.2.2.2; omega
  have hR1 := R_pos hx
  have HLO := Lib.hid (R_low hx)
  unfold low80 at HLO
  have hfi := fi_has hh
  rw [hk] at hfi
  have hkl : k < (R x).length := by rw [← hk]; exact idx_lt hh
  rw [← hWB] at KB
  have HWB := Lib.hid hWB
  have hWBs : W.heap.size ≤ WB.heap.size := KB.size
  clear hm0 hm1 hh hk hWB hn2 KA
  unfold WyPost
  generalize M x = ms at *
  generalize R x = L at *
  obtain ⟨n, hn⟩ : ∃ n, ms.length = n := ⟨_, rfl⟩
  obtain ⟨nL, hnL⟩ : ∃ n, L.length = n := ⟨_, rfl⟩
  rw [hn] at HRc hM45 hM1
  rw [hnL] at HRc hR20 HLO hkl hR1
  have HX := Lib.hid (fun w v hs => i_Index v nL y L w hs hnL (by omega) hy HLO)
  rw [hfi] at HX
  have HN := Lib.hid hn
  have HP := Lib.hid hP
  obtain ⟨EF, hEF⟩ : ∃ E, evL ms P = E := ⟨_, rfl⟩
  obtain ⟨np, hnp⟩ : ∃ n, P.length = n := ⟨_, rfl⟩
  have hEl : EF.length = np := by rw [← hEF]; simp [evL, hnp]
  rw [hEF]
  rw [hnp] at hPl
  have HE := Lib.hid (show [] ++ evL ms P = EF by rw [hEF]; rfl)
  have HNP := Lib.hid hnp
  have HEL := Lib.hid hEl
  clear hn hnL hfi hP hEF hnp hEl
  go_enter Try.func50, Try.ntmps50
  go_upto_region 1 with (fail)
  rw [← HWB.out]
  have p0 := P0.out
  have p1 := P1.out
  have p2 := P2.out
  have p3 := P3.out
  have p4 := P4.out
  go_wp2_with (first | (go_at_call 86; have _two := tok1; refine (HO1.out _).mono ?_; rintro e w3 ⟨rfl, hb3⟩; have hk3 := kept_trans hb2 hb3; have p0 := cell_keep hk3 P0.out; have p1 := cell_keep hk3 P1.out; have p2 := cell_keep hk3 P2.out; have p3 := cell_keep hk3 P3.out; have p4 := cell_keep hk3 P4.out) | (go_at_call 86; refine (HO0.out _).mono ?_; rintro e w2 ⟨rfl, hb2⟩; have tok1 : True := trivial; have q0 := cell_keep hb2 Q0.out; have q1 := cell_keep hb2 Q1.out; have q2 := cell_keep hb2 Q2.out; have q3 := cell_keep hb2 Q3.out; have q4 := cell_keep hb2 Q4.out) | (go_at_call 87; refine (HRc.out _).mono ?_; rintro e w4 ⟨v1, v2, rfl, hb4, ho1, ho2⟩; obtain ⟨gm, capm, rfl, hgm, hrm⟩ := ho2.opened (by omega); have hk4 := kept_trans hk3 hb4; have q0 := cell_keep hk4 Q0.out; have q1 := cell_keep hk4 Q1.out; have q2 := cell_keep hk4 Q2.out; have q3 := cell_keep hk4 Q3.out; have q4 := cell_keep hk4 Q4.out) | (go_at_call 94; refine (HX.out _ _ (ho1.sl (by omega))).mono ?_; rintro e w5 ⟨rfl, hb5⟩))
  have hat0 : (w5.alloc (.cells #[.int .i64 (k : Nat)] 2)).rowIs w5.heap.size 2 1 (fun _ => .int .i64 (k : Nat)) := one_row _ _ _
  have KW : Below W.heap.size W (w5.alloc (.cells #[.int .i64 (k : Nat)] 2)) := kept_alloc (kept_trans (kept_trans KB hk4) hb5) _
  have hmv0 := (ho2.kept hb5).kept (kept_alloc (Below.refl _ _) (.cells #[.int .i64 (k : Nat)] 2))
  have hszW : W.heap.size ≤ w5.heap.size := (kept_trans (kept_trans KB hk4) hb5).size
  have hgm5 : gm < w5.heap.size := by have := hrm.1; have := hb5.size; omega
  have HPP : Hid (np ≤ 0 + P.length ∧ 0 + P.length ≤ np) := ⟨by rw [HNP.out]; omega, by rw [HNP.out]; omega⟩
  clear hrm ho1 ho2 hk4 hb5 hb4 hk3 hb3 hb2 HO0 HO1 HRc HX p0 p1 p2 p3 p4 q0 q1 q2 q3 q4 KB
  go_loopw [9] (fun u wr => ∃ (y' q : Nat) (P' E : List Nat) (B : Nat) (x1 : Value), x1 = u ∧ Hid (slen x1 = q) ∧ Hid (np ≤ q + P'.length ∧ q + P'.length ≤ np) ∧ Hid (chkI ms y' P' = true) ∧ Hid (E ++ evL ms P' = EF) ∧ Hid (E.length = q) ∧ Below W.heap.size W wr ∧ wr.rowIs w5.heap.size 2 1 (fun _ => .int .i64 (y' : Nat)) ∧ Out wr (w5.heap.size + 1) 2 1 x1 q (nc E) ∧ Out wr B 77 3 (.slice (some ⟨gm, 0, none⟩) n capm) n (mvc ms)) (fun u _ => np - slen u)
  case atStart => exact ⟨k, 0, P, [], _, _, rfl, rfl, HPP, HP, HE, rfl, KW, hat0, Out.nil _ _ _ _ _, hmv0⟩
  case round =>
    clear hat0 KW hmv0
    obtain ⟨y', q, P', E, B, x1, rfl, hsl, hq, hch, hE, hEq, hb, hat, hown, hmv⟩ := hrel
    have hcat := hat.cell (i := 0) (by omega)
    have hfat := hat.frozen 0
    by_cases h0 : y' = 0
    · subst h0
      have hPe := chkI_end hch.out
      have hEE := hE.out
      rw [hPe] at hEE
      have hEE2 : E = EF := by rw [← hEE]; simp [evL]
      have hqq : q = EF.length := by rw [← hEE2, hEq.out]
      have HEE := Lib.hid hEE2
      have HQQ := Lib.hid hqq
      have hq20 : q < 20 := by rw [hqq, HEL.out]; exact hPl
      clear hPe hEE hEE2 hqq
      rcases hown.split1 with ⟨rfl, hq0⟩ | ⟨g, cap, F, rfl, hgB, hcm, hqc, hrow, hF⟩
      · have R1 : Hid (Out wr W.heap.size 2 1 (.slice none 0 0) EF.reverse.length (nc EF.reverse)) := by
          rw [List.length_reverse, ← HQQ.out, hq0]; exact Out.nil _ _ _ _ _
        clear hq0
        go_wp2_with (first | (go_at_call 97; refine (i_Reverse_nil _).mono ?_; rintro e w6 ⟨rfl, rfl⟩))
        refine bodyPost_ret (results_tmp2 rfl _ _ _) rfl ⟨_, rfl, hb, R1.out⟩
      · have HRv := Lib.hid (i_Reverse g q cap (fun j => (nth E j : Int)) F wr hrow (fun j hj => by rw [hF j hj]; rfl) (by omega) hqc)
        unfold RevPost at HRv
        clear hrow hF
        go_wp2_with (first | (go_at_call 97; refine HRv.out.mono ?_; rintro e w6 ⟨rfl, hg6, F6, hrow6, hF6⟩))
        have R1 : Hid (Out w6 W.heap.size 2 1 (.slice (some ⟨g, 0, none⟩) q cap) EF.reverse.length (nc EF.reverse)) := by
          rw [List.length_reverse, ← HQQ.out]
          refine out_of_row hrow6 (fun j hj => ?_) hqc (by omega) hcm
          rw [hF6 j hj, ← HEE.out]
          simp only [nc]
          rw [nth_rev (by rw [hEq.out]; exact hj), hEq.out]
        have B1 := Lib.hid (kept_grown hb hg6 (fun b hb => by simp only [Option.some.injEq] at hb; omega))
        clear hrow6 hF6 hg6
        refine bodyPost_ret (results_tmp2 rfl _ _ _) rfl ⟨.slice (some ⟨g, 0, none⟩) q cap, rfl, B1.out, R1.out⟩
    · obtain ⟨b, P'', hPe, hfb, hbl, hch2⟩ := chkI_out hch.out h0
      have hbn : b < n := by rw [← HN.out]; exact hbl
      obtain ⟨f, e, t, hm⟩ : ∃ f e t, nthM ms b = (f, e, t) := ⟨_, _, _, rfl⟩
      rw [hm] at hch2
      simp only at hch2
      have HCH := Lib.hid hch2
      have HE2 := Lib.hid (show (E ++ [e]) ++ evL ms P'' = EF by rw [← hE.out, hPe]; simp [evL, hm])
      have HQ2 : Hid (np ≤ (q + 1) + P''.length ∧ (q + 1) + P''.length ≤ np) := by
        have := hq.out; rw [hPe] at this; simp only [List.length_cons] at this; exact ⟨by omega, by omega⟩
      have HEq2 := Lib.hid (show (E ++ [e]).length = q + 1 by simp [hEq.out])
      have hqn : q < np := by have := HQ2.out; omega
      have HIX := Lib.hid (i_WayIndex gm n capm y' w5.heap.size b ms wr hmv.row_at hM45 HN (Lib.hid hfb) hbn hcat)
      have d0 : ((y' : Int) != 0) = true := by simp; omega
      have hb1 : (b : Int) < n := by omega
      have hb0 : (0 : Int) ≤ b := by omega
      have HM := Lib.hid hm
      have HOB := Lib.hid (World.ownsRow.lt hown.row)
      have HSL := hsl.out
      have hms : np - (q + 1) < np - slen x1 := by rw [HSL]; omega
      clear hPe hfb hbl hch2 hm h0 HSL
      go_wp2_with (first | (go_at_call 95; refine HIX.out.mono ?_; rintro e' w6 ⟨rfl, hb6⟩; obtain ⟨s0, s1, s2⟩ := mvcells ((hmv.kept hb6).row_at) hbn HM.out; simp only [Nat.zero_add] at s0 s1 s2; have KX := kept_alloc hb6 (.cells #[.int .i64 (f : Nat), .int .i64 (e : Nat), .int .i64 (t : Nat)] 77); have hownA := hown.kept KX; have hbA := kept_trans hb KX; have hsz6 : w5.heap.size + 1 ≤ w6.heap.size := (by have := hat.lt; have := hb6.size; omega)) | ((at_builtin; refine wpList_append_own _ rfl _ _ 35 rfl _ 2 i0 _ 1 8 Try.underlying35 hi hz0 hz1 hz2 rfl (by decide) _ _ _ rfl ((hownA).row.alloc _) ⟨w6.heap.size + 1, 0, none⟩ 1 1 _ (by rfl) (by rfl) (laid_at (by simp)) (by intro u hu; simp at hu; first | (rcases hu with rfl | rfl | rfl | rfl | rfl <;> rfl) | (rcases hu with rfl | rfl | rfl <;> rfl) | (rcases hu with rfl | rfl <;> rfl) | (subst hu; rfl)) (by simp only [maxLen]; omega) (by omega) (by have hbs := hbA.size; simp at hbs ⊢; omega) ?_; intro v1 w1 hown1 hgrow1 _); have hneB : some w6.heap.size ≠ x1.ownBlock := (by intro hh; have := (HOB.out _ hh.symm).2; have := hb6.size; omega); have hneA : some w5.heap.size ≠ x1.ownBlock := (by intro hh; have := (HOB.out _ hh.symm).1; omega); have c0 := hgrow1.cell (cell_keep (kept_alloc (Below.refl _ _) _) (boxed_at (w := w6) (cs := #[.int .i64 (f : Nat), .int .i64 (e : Nat), .int .i64 (t : Nat)]) (t := 77) (i := 0) rfl rfl)) hneB; have hatA := hat.of_block ((kept_alloc KX (.cells #[.int .i64 (e : Nat)] 2)).block _ hat.lt); have hat1 := hatA.of_block (hgrow1.block _ hatA.lt hneA); have a0 := hat1.cell (i := 0) (by omega); have a1 := hat1.frozen 0))
      have RE := out_n hEq.out hown1
      have SL1 := Lib.hid (slen_of RE)
      have R1 := Lib.hid (RE.setcell w5.heap.size 0 (.int .i64 (f : Nat)) (fun b hb => by have := (RE.base b hb).1; omega))
      have R2 := Lib.hid (((hmv.kept KX).across hownA.row (by decide) hgrow1).setcell w5.heap.size 0 (.int .i64 (f : Nat)) (fun b hb => by simp only [Value.ownBlock, Option.some.injEq] at hb; omega))
      have R3 := Lib.hid (kept_set (below_append hbA (by omega) hownA.row hgrow1) (p := ⟨w5.heap.size, 0, none⟩) hszW (.int .i64 (f : Nat)))
      have R4 := Lib.hid (one_set (u := .int .i64 (f : Nat)) hat1)
      clear hat hatA hat1 hown hownA hown1 hgrow1 hmv hb hbA KX RE c0 a0 a1 s0 s1 s2
      try go_wp2
      go_roundw
      case rel => exact ⟨f, q + 1, P'', E ++ [e], B, _, rfl, SL1, HQ2, HCH, HE2, HEq2, R3.out, R4.out, R1.out, R2.out⟩
      case measure => rw [SL1.out]; exact hms

end Go.Proofs.Ytkloolhngddpiaa
