/- The rides' goals, and how far each state lies from one: the reference's walks. -/
import Derived.Test.YtkloolhngddpiaaFarS
import Derived.Test.YtkloolhngddpiaaChkF
namespace Go.Proofs.Ytkloolhngddpiaa
open Go.RowKit Go.Deep
set_option linter.unusedVariables false
set_option maxRecDepth 100000

def pS (n : Nat) (s : Bool × List Nat) (a : Nat) : Bool × List Nat := if s.1 = false ∧ n ≤ a then (true, (if n < a then s.2 ++ [n] else s.2) ++ [a]) else (s.1, s.2 ++ [a])
def pK (n : Nat) (gs : List Nat) : Nat → Bool × List Nat
  | 0 => (false, [])
  | k + 1 => pS n (pK n gs k) (nth gs k)
def pF (n : Nat) (s : Bool × List Nat) : List Nat := if s.1 = false then s.2 ++ [n] else s.2
theorem pK_take (n : Nat) (gs : List Nat) (k : Nat) (h : k ≤ gs.length) : pK n gs k = (gs.take k).foldl (pS n) (false, []) := by
  induction k with
  | zero => rfl
  | succ k ih =>
    rw [take_nth (by omega), List.foldl_append, ← ih (by omega)]
    rfl
theorem pS_true (n : Nat) (l o : List Nat) : l.foldl (pS n) (true, o) = (true, o ++ l) := by
  induction l generalizing o with
  | nil => simp
  | cons a l ih =>
    rw [List.foldl_cons, show pS n (true, o) a = (true, o ++ [a]) from by simp [pS], ih]
    simp
theorem pF_all (n : Nat) (l o : List Nat) : pF n (l.foldl (pS n) (false, o)) = o ++ putR l n := by
  induction l generalizing o with
  | nil => simp [pF, putR]
  | cons a l ih =>
    rw [List.foldl_cons]
    by_cases h : n ≤ a
    · by_cases h2 : n < a
      · rw [show pS n (false, o) a = (true, o ++ [n] ++ [a]) from by simp [pS, h, h2], pS_true]
        have e1 : Nat.blt a n = false := by
          cases e : Nat.blt a n
          · rfl
          · rw [Nat.blt_eq] at e; omega
        have e2 : Nat.beq a n = false := beq_ne (by omega)
        simp [pF, putR, e1, e2]
      · obtain rfl : a = n := by omega
        rw [show pS a (false, o) a = (true, o ++ [a]) from by simp [pS], pS_true]
        have e1 : Nat.blt a a = false := by
          cases e : Nat.blt a a
          · rfl
          · rw [Nat.blt_eq] at e; omega
        simp [pF, putR, e1]
    · rw [show pS n (false, o) a = (false, o ++ [a]) from by simp [pS, h], ih]
      have e1 : Nat.blt a n = true := by rw [Nat.blt_eq]; omega
      simp [putR, e1]
theorem pK_end (n : Nat) (gs : List Nat) : pF n (pK n gs gs.length) = putR gs n := by
  rw [pK_take n gs _ (Nat.le_refl _), List.take_length, pF_all]; rfl
theorem pS_len (n : Nat) (s : Bool × List Nat) (a : Nat) : (pS n s a).2.length ≤ s.2.length + (if s.1 = false ∧ (pS n s a).1 = true then 2 else 1) := by
  unfold pS
  by_cases h : s.1 = false ∧ n ≤ a
  · rw [if_pos h]
    by_cases h2 : n < a
    · simp [h2, h.1]
    · simp [h2, h.1]
  · rw [if_neg h]; simp
theorem pK_len (n : Nat) (gs : List Nat) (k : Nat) : (pK n gs k).2.length ≤ k + (if (pK n gs k).1 = true then 1 else 0) := by
  induction k with
  | zero => simp [pK]
  | succ k ih =>
    have h := pS_len n (pK n gs k) (nth gs k)
    have h3 : (pK n gs k).1 = true → (pK n gs (k + 1)).1 = true := fun h => by
      show (pS n (pK n gs k) (nth gs k)).1 = true
      unfold pS
      rw [if_neg (by simp [h])]; exact h
    show (pS n (pK n gs k) (nth gs k)).2.length ≤ _
    have e : (pK n gs (k + 1)).1 = (pS n (pK n gs k) (nth gs k)).1 := rfl
    rw [e] at h3 ⊢
    cases h1 : (pK n gs k).1 <;> cases h2 : (pS n (pK n gs k) (nth gs k)).1
    · simp [h1, h2] at h ih ⊢ <;> omega
    · simp [h1, h2] at h ih ⊢ <;> omega
    · have := h3 h1; rw [h2] at this; cases this
    · simp [h1, h2] at h ih ⊢ <;> omega

def PutPost (l : List Nat) (W : World) (en : Ending) (W' : World) : Prop := ∃ v1, en = .returned v1 ∧ Below W.heap.size W W' ∧ Out W' W.heap.size 2 1 v1 l.length (nc l)

set_option maxHeartbeats 3200000 in
theorem s_l00Put (v : Value) (m n : Nat) (gs : List Nat) (W : World) (hs : Sl W v 1 m (nc gs)) (HL : Hid (gs.length = m)) (hm : m ≤ 1000) (hn : n ≤ 1000) (HB : Hid (∀ i, i < m → nth gs i ≤ 1000)) :
    Calls Try.prog 119 #[v, .int .i64 (n : Nat)] W (PutPost (putR gs n) W) := by
  obtain ⟨i0, hi, hz0, hz1, hz2⟩ := info_parts infoInt
  obtain ⟨-, ao, cap, rfl, hr⟩ := hs
  have HE : Hid (pF n (pK n gs m) = putR gs n) := by rw [← HL.out]; exact pK_end n gs
  unfold PutPost
  generalize putR gs n = PP at *
  have O1 : Hid (Out (W.alloc (.cells #[] 2)) W.heap.size 2 1 (.slice (some ⟨W.heap.size, 0, none⟩) 0 0) 0 (nc [])) := Out.empty _ _ _ _ _ (Nat.le_refl _)
  have KB2 := kept_alloc (Below.refl W.heap.size W) (.cells #[] 2)
  have HR := Lib.hid hr
  clear hr
  go_enter Try.func119, Try.ntmps119
  go_wp2
  go_loopw [5, 6, 7] (fun u d i wr => ∃ (k q : Nat) (b : Bool) (o : List Nat) (x : Value), k ≤ m ∧ q ≤ k + 1 ∧ i = .int .i64 k ∧ d = .bool b ∧ x = u ∧ Hid (pK n gs k = (b, o)) ∧ Hid (o.length = q) ∧ Below W.heap.size W wr ∧ Out wr W.heap.size 2 1 x q (nc o)) (fun _ _ i _ => m - (intOf i).toNat)
  case atStart => exact ⟨0, 0, false, [], _, by omega, by omega, rfl, rfl, rfl, rfl, rfl, KB2, O1.out⟩
  case round =>
    clear KB2 O1
    obtain ⟨k, q, b, o, x, hk, hq, rfl, rfl, rfl, hp, ho, hb, hown⟩ := hrel
    by_cases hlt : k < m
    · have HR2 := HR.out
      rcases HR2 with h0 | ⟨g, off, rfl, hr⟩
      · omega
      obtain ⟨a, ha⟩ : ∃ a, nth gs k = a := ⟨_, rfl⟩
      have hab := HB.out k hlt
      rw [ha] at hab
      have s0' := hr.cell (i := k) (by omega)
      simp only [nc, ha] at s0'
      have s0 := cell_keep hb s0'
      have S0 := Lib.hid s0'
      have hnx : pK n gs (k + 1) = pS n (b, o) a := by show pS n (pK n gs k) (nth gs k) = _; rw [hp.out, ha]
      have hlen := pK_len n gs (k + 1)
      clear ha hr s0'
      cases b
      · by_cases h1 : n ≤ a
        · have d1 : (n : Int) ≤ a := by omega
          by_cases h2 : n < a
          · have HN := Lib.hid (show pK n gs (k + 1) = (true, (o ++ [n]) ++ [a]) by rw [hnx]; simp [pS, h1, h2])
            have HQ1 := Lib.hid (show (o ++ [n]).length = q + 1 by simp [ho.out])
            have HQ2 := Lib.hid (show ((o ++ [n]) ++ [a]).length = q + 1 + 1 by simp [ho.out])
            have hq2 : q + 1 + 1 ≤ k + 1 + 1 := by
              rw [HN.out] at hlen
              simp only [if_true] at hlen
              rw [HQ2.out] at hlen
              omega
            have d2 : (n : Int) < a := by omega
            clear hnx hlen
            go_wp2_with (first | ((at_builtin; refine wpList_append_own _ rfl _ _ 35 rfl _ 2 i0 _ 1 8 Try.underlying35 hi hz0 hz1 hz2 rfl (by decide) _ _ _ rfl ((hownM).row.alloc _) ⟨w1.heap.size, 0, none⟩ 1 1 _ (by rfl) (by rfl) (laid_at (by simp)) (by intro u hu; simp at hu; first | (rcases hu with rfl | rfl | rfl | rfl | rfl <;> rfl) | (rcases hu with rfl | rfl | rfl <;> rfl) | (rcases hu with rfl | rfl <;> rfl) | (subst hu; rfl)) (by simp only [maxLen]; omega) (by omega) (by have hbs := hbM.size; simp at hbs ⊢; omega) ?_; intro v2 w2 hown2 hgrow2 _)) | ((at_builtin; refine wpList_append_own _ rfl _ _ 35 rfl _ 2 i0 _ 1 8 Try.underlying35 hi hz0 hz1 hz2 rfl (by decide) _ _ _ rfl ((hown).row.alloc _) ⟨wr.heap.size, 0, none⟩ 1 1 _ (by rfl) (by rfl) (laid_at (by simp)) (by intro u hu; simp at hu; first | (rcases hu with rfl | rfl | rfl | rfl | rfl <;> rfl) | (rcases hu with rfl | rfl | rfl <;> rfl) | (rcases hu with rfl | rfl <;> rfl) | (subst hu; rfl)) (by simp only [maxLen]; omega) (by omega) (by have hbs := hb.size; simp at hbs ⊢; omega) ?_; intro v1 w1 hown1 hgrow1 _); have hownM := out_n ho.out hown1; have hbM := below_append hb (Nat.le_refl _) hown.row hgrow1; have s1 := cell_keep hbM S0.out))
            have R1 := out_n HQ1.out hown2
            have R2 := below_append hbM (Nat.le_refl _) hownM.row hgrow2
            clear hown hown1 hgrow1 hb s0 s1 hown2 hgrow2 hbM hownM
            try go_wp2
            go_roundw
            case rel => exact ⟨k + 1, q + 1 + 1, true, (o ++ [n]) ++ [a], _, by omega, by omega, by go_num, rfl, rfl, HN, HQ2, R2, R1⟩
            case measure => simp [intOf]; omega
          · have d2 : ¬ ((n : Int) < a) := by omega
            have HN := Lib.hid (show pK n gs (k + 1) = (true, o ++ [a]) by rw [hnx]; simp [pS, h1, h2])
            have HQ2 := Lib.hid (show (o ++ [a]).length = q + 1 by simp [ho.out])
            skip
            clear hnx hlen
            go_wp2_with ((at_builtin; refine wpList_append_own _ rfl _ _ 35 rfl _ 2 i0 _ 1 8 Try.underlying35 hi hz0 hz1 hz2 rfl (by decide) _ _ _ rfl ((hown).row.alloc _) ⟨wr.heap.size, 0, none⟩ 1 1 _ (by rfl) (by rfl) (laid_at (by simp)) (by intro u hu; simp at hu; first | (rcases hu with rfl | rfl | rfl | rfl | rfl <;> rfl) | (rcases hu with rfl | rfl | rfl <;> rfl) | (rcases hu with rfl | rfl <;> rfl) | (subst hu; rfl)) (by simp only [maxLen]; omega) (by omega) (by have hbs := hb.size; simp at hbs ⊢; omega) ?_; intro v1 w1 hown1 hgrow1 _))
            have R1 := out_n ho.out hown1
            have R2 := below_append hb (Nat.le_refl _) hown.row hgrow1
            clear hown hown1 hgrow1 hb s0
            try go_wp2
            go_roundw
            case rel => exact ⟨k + 1, q + 1, true, o ++ [a], _, by omega, by omega, by go_num, rfl, rfl, HN, HQ2, R2, R1⟩
            case measure => simp [intOf]; omega
        · have d1 : ¬ ((n : Int) ≤ a) := by omega
          have HN := Lib.hid (show pK n gs (k + 1) = (false, o ++ [a]) by rw [hnx]; simp [pS, h1])
          have HQ2 := Lib.hid (show (o ++ [a]).length = q + 1 by simp [ho.out])
          skip
          clear hnx hlen
          go_wp2_with ((at_builtin; refine wpList_append_own _ rfl _ _ 35 rfl _ 2 i0 _ 1 8 Try.underlying35 hi hz0 hz1 hz2 rfl (by decide) _ _ _ rfl ((hown).row.alloc _) ⟨wr.heap.size, 0, none⟩ 1 1 _ (by rfl) (by rfl) (laid_at (by simp)) (by intro u hu; simp at hu; first | (rcases hu with rfl | rfl | rfl | rfl | rfl <;> rfl) | (rcases hu with rfl | rfl | rfl <;> rfl) | (rcases hu with rfl | rfl <;> rfl) | (subst hu; rfl)) (by simp only [maxLen]; omega) (by omega) (by have hbs := hb.size; simp at hbs ⊢; omega) ?_; intro v1 w1 hown1 hgrow1 _))
          have R1 := out_n ho.out hown1
          have R2 := below_append hb (Nat.le_refl _) hown.row hgrow1
          clear hown hown1 hgrow1 hb s0
          try go_wp2
          go_roundw
          case rel => exact ⟨k + 1, q + 1, false, o ++ [a], _, by omega, by omega, by go_num, rfl, rfl, HN, HQ2, R2, R1⟩
          case measure => simp [intOf]; omega
      · skip
        have HN := Lib.hid (show pK n gs (k + 1) = (true, o ++ [a]) by rw [hnx]; simp [pS])
        have HQ2 := Lib.hid (show (o ++ [a]).length = q + 1 by simp [ho.out])
        skip
        clear hnx hlen
        go_wp2_with ((at_builtin; refine wpList_append_own _ rfl _ _ 35 rfl _ 2 i0 _ 1 8 Try.underlying35 hi hz0 hz1 hz2 rfl (by decide) _ _ _ rfl ((hown).row.alloc _) ⟨wr.heap.size, 0, none⟩ 1 1 _ (by rfl) (by rfl) (laid_at (by simp)) (by intro u hu; simp at hu; first | (rcases hu with rfl | rfl | rfl | rfl | rfl <;> rfl) | (rcases hu with rfl | rfl | rfl <;> rfl) | (rcases hu with rfl | rfl <;> rfl) | (subst hu; rfl)) (by simp only [maxLen]; omega) (by omega) (by have hbs := hb.size; simp at hbs ⊢; omega) ?_; intro v1 w1 hown1 hgrow1 _))
        have R1 := out_n ho.out hown1
        have R2 := below_append hb (Nat.le_refl _) hown.row hgrow1
        clear hown hown1 hgrow1 hb s0
        try go_wp2
        go_roundw
        case rel => exact ⟨k + 1, q + 1, true, o ++ [a], _, by omega, by omega, by go_num, rfl, rfl, HN, HQ2, R2, R1⟩
        case measure => simp [intOf]; omega
    · obtain rfl : k = m := by omega
      have he := HE.out
      rw [hp.out] at he
      cases b
      · have HL2 := Lib.hid (show (o ++ [n]).length = q + 1 by simp [ho.out])
        have HPP : Hid (o ++ [n] = PP) := Lib.hid (by rw [← he]; rfl)
        clear he
        go_wp2_with ((at_builtin; refine wpList_append_own _ rfl _ _ 35 rfl _ 2 i0 _ 1 8 Try.underlying35 hi hz0 hz1 hz2 rfl (by decide) _ _ _ rfl ((hown).row.alloc _) ⟨wr.heap.size, 0, none⟩ 1 1 _ (by rfl) (by rfl) (laid_at (by simp)) (by intro u hu; simp at hu; first | (rcases hu with rfl | rfl | rfl | rfl | rfl <;> rfl) | (rcases hu with rfl | rfl | rfl <;> rfl) | (rcases hu with rfl | rfl <;> rfl) | (subst hu; rfl)) (by simp only [maxLen]; omega) (by omega) (by have hbs := hb.size; simp at hbs ⊢; omega) ?_; intro v1 w1 hown1 hgrow1 _))
        have R1 : Hid (Out w1 W.heap.size 2 1 v1 PP.length (nc PP)) := by rw [← HPP.out, HL2.out]; exact out_n ho.out hown1
        have R2 := below_append hb (Nat.le_refl _) hown.row hgrow1
        clear hown hown1 hgrow1 hb
        try go_wp2
        go_ret
        exact ⟨_, rfl, R2, R1.out⟩
      · have HPP : Hid (o = PP) := Lib.hid (by rw [← he]; rfl)
        have R1 : Hid (Out wr W.heap.size 2 1 x PP.length (nc PP)) := by rw [← HPP.out, ho.out]; exact hown
        clear he hown
        go_wp2
        go_ret
        exact ⟨_, rfl, hb, R1.out⟩

/-! The goals, and the distances. -/
def g7K (ms : List (Nat × Nat × Nat)) : Nat → List Nat
  | 0 => []
  | k + 1 => goal1 (g7K ms k) (nthM ms k)
theorem g7K_end (ms : List (Nat × Nat × Nat)) : g7K ms ms.length = goals7 ms := by
  have key : ∀ k, k ≤ ms.length → g7K ms k = (ms.take k).foldl goal1 [] := by
    intro k
    induction k with
    | zero => intro _; rfl
    | succ k ih =>
      intro h
      rw [take_nthM (by omega), List.foldl_append, ← ih (by omega)]
      rfl
  rw [key _ (Nat.le_refl _), List.take_length]; rfl
theorem g7_yes {g : List Nat} {f t : Nat} : goal1 g (f, 7, t) = putR g f := rfl
theorem g7_no {g : List Nat} {f e t : Nat} (h : e ≠ 7) : goal1 g (f, e, t) = g := by
  unfold goal1
  show cond (Nat.beq e 7) _ _ = _
  rw [beq_ne h]; rfl
theorem put_in {l : List Nat} {n b : Nat} (h : ∀ i, i < l.length → nth l i ≤ b) (hn : n ≤ b) : ∀ i, i < (putR l n).length → nth (putR l n) i ≤ b := by
  have key : ∀ (l : List Nat), (∀ x ∈ l, x ≤ b) → ∀ x ∈ putR l n, x ≤ b := by
    intro l
    induction l with
    | nil => intro _ x hx; simp [putR] at hx; omega
    | cons a l ih =>
      intro hl x hx
      have ha := hl a List.mem_cons_self
      have hl2 : ∀ x ∈ l, x ≤ b := fun x hx => hl x (List.mem_cons_of_mem _ hx)
      simp only [putR] at hx
      cases h1 : Nat.blt a n
      · rw [h1] at hx
        simp only [cond_false] at hx
        cases h2 : Nat.beq a n
        · rw [h2] at hx
          simp only [cond_false, List.mem_cons] at hx
          rcases hx with rfl | rfl | hx
          · exact hn
          · exact ha
          · exact hl2 x hx
        · rw [h2] at hx
          simp only [cond_true, List.mem_cons] at hx
          rcases hx with rfl | hx
          · exact ha
          · exact hl2 x hx
      · rw [h1] at hx
        simp only [cond_true, List.mem_cons] at hx
        rcases hx with rfl | hx
        · exact ha
        · exact ih hl2 x hx
  have all : ∀ x ∈ l, x ≤ b := by
    intro x hx
    have : ∀ (l : List Nat), (∀ i, i < l.length → nth l i ≤ b) → ∀ x ∈ l, x ≤ b := by
      intro l
      induction l with
      | nil => intro _ x hx; cases hx
      | cons a l ih =>
        intro hl x hx
        rcases List.mem_cons.1 hx with rfl | hx
        · exact hl 0 (by simp)
        · exact ih (fun i hi => hl (i + 1) (by simpa using hi)) x hx
    exact this l h x hx
  intro i hi
  exact key l all _ (nth_mem hi)
theorem put_count (l : List Nat) (n : Nat) : (putR l n).length ≤ l.length + 1 := by
  induction l with
  | nil => simp [putR]
  | cons a l ih =>
    simp only [putR]
    cases Nat.blt a n <;> cases Nat.beq a n <;> simp <;> omega

set_option maxHeartbeats 3200000 in
theorem s_l15Ride (x : Nat) (v vm : Value) (W : World) (hx : x < 80) (hs : Sl W v 5 (R x).length (stc (R x))) (hm : Sl W vm 3 (M x).length (mvc (M x))) :
    Calls Try.prog 90 #[v, vm] W (FarPost (R x).length (far (R x).length (M x) (goals7 (M x))) W) := by
  have hn20 : (R x).length ≤ 20 := (chk0_out hx).2.2.1
  have hn1 := R_pos hx
  have hm45 : (M x).length ≤ 45 := (chk0_out hx).2.2.2.1
  have HMI := Lib.hid (fun i h => M_in (x := x) hx (i := i) h)
  have HGI := goals7_in hx
  have HFAR := Lib.hid (fun ng gs v vg w hs hg hng HG HGI => s_l15Far (R x).length (M x).length ng (M x) gs v vg w hs hg ⟨hn1, hn20⟩ hm45 hng rfl HG (fun i hi => ⟨((HMI.out i hi).1), (HMI.out i hi).2.1⟩) HGI)
  have HE : Hid (g7K (M x) (M x).length = goals7 (M x)) := g7K_end (M x)
  generalize goals7 (M x) = GG at *
  unfold FarPost at *
  generalize M x = ms at *
  generalize R x = L at *
  obtain ⟨n, hn⟩ : ∃ n, L.length = n := ⟨_, rfl⟩
  obtain ⟨nm, hnm⟩ : ∃ n, ms.length = n := ⟨_, rfl⟩
  rw [hn] at hs hn20 hn1 HMI HGI HFAR
  rw [hnm] at hm hm45 HMI HFAR HE
  rw [hn]
  have HGI2 := Lib.hid HGI
  clear hn hnm HGI
  obtain ⟨-, aoL, capL, rfl, hrL⟩ := hs
  obtain ⟨-, ao, cap, rfl, hr⟩ := hm
  have O1 : Hid (Out (W.alloc (.cells #[] 2)) W.heap.size 2 1 (.slice (some ⟨W.heap.size, 0, none⟩) 0 0) 0 (nc [])) := Out.empty _ _ _ _ _ (Nat.le_refl _)
  have KB2 := kept_alloc (Below.refl W.heap.size W) (.cells #[] 2)
  have HSM : Hid (Sl W (.slice ao nm cap) 3 nm (mvc ms)) := ⟨by omega, ao, cap, rfl, hr⟩
  have HR := Lib.hid hr
  clear hr hrL
  go_enter Try.func90, Try.ntmps90
  go_wp2
  go_loopw [5, 6] (fun u i wr => ∃ (k q : Nat) (o : List Nat) (x : Value), k ≤ nm ∧ q ≤ k ∧ i = .int .i64 k ∧ x = u ∧ Hid (g7K ms k = o) ∧ Hid (o.length = q) ∧ Hid (∀ i, i < q → nth o i ≤ 20) ∧ Below W.heap.size W wr ∧ Out wr W.heap.size 2 1 x q (nc o)) (fun _ i _ => nm - (intOf i).toNat)
  case atStart => exact ⟨0, 0, [], _, by omega, by omega, rfl, rfl, rfl, rfl, fun i hi => absurd hi (by omega), KB2, O1.out⟩
  case round =>
    clear KB2 O1
    obtain ⟨k, q, o, x, hk, hq, rfl, rfl, hp, ho, hob, hb, hown⟩ := hrel
    by_cases hlt : k < nm
    · have HR2 := HR.out
      rcases HR2 with h0 | ⟨g, off, rfl, hr⟩
      · omega
      obtain ⟨f, e, t, hm⟩ : ∃ f e t, nthM ms k = (f, e, t) := ⟨_, _, _, rfl⟩
      have hmi := HMI.out k hlt
      rw [hm] at hmi
      obtain ⟨hf20, -, -, -⟩ := hmi
      simp only at hf20
      obtain ⟨s0, s1, s2⟩ := mvcells (hr.kept hb) hlt hm
      have hnx : g7K ms (k + 1) = goal1 o (f, e, t) := by show goal1 (g7K ms k) (nthM ms k) = _; rw [hp.out, hm]
      clear hm hr
      by_cases h7 : e = 7
      · subst h7
        obtain ⟨P, hP⟩ : ∃ P, putR o f = P := ⟨_, rfl⟩
        have HP := Lib.hid (fun w v hs => s_l00Put v q f o w hs ho (by omega) (by omega) (fun i hi => by have := hob.out i hi; omega))
        unfold PutPost at HP
        have hP1 := put_count o f
        have hP2 := put_in (l := o) (n := f) (b := 20) (fun i hi => hob.out i (by rw [← ho.out]; exact hi)) (by omega)
        rw [hP] at HP hP1 hP2
        rw [g7_yes, hP] at hnx
        obtain ⟨q2, hq2⟩ : ∃ q2, P.length = q2 := ⟨_, rfl⟩
        rw [hq2] at HP hP1 hP2
        rw [ho.out] at hP1
        have HN := Lib.hid hnx
        have HP2 := Lib.hid hP2
        have HQ2 := Lib.hid hq2
        clear hnx hP hP2 hq2
        go_wp2_with (first | (go_at_call 119; refine (HP.out _ _ (hown.sl (by omega))).mono ?_; rintro e' w2 ⟨v2, rfl, hb2, ho2⟩))
        go_roundw
        case rel => exact ⟨k + 1, q2, P, _, by omega, by omega, by go_num, rfl, HN, HQ2, HP2, kept_trans hb hb2, ho2.base_le hb.size⟩
        case measure => simp [intOf]; omega
      · have d7 : ((e : Int) == 7) = false := by simp; omega
        rw [g7_no h7] at hnx
        have HN := Lib.hid hnx
        clear hnx h7
        go_wp2
        go_roundw
        case rel => exact ⟨k + 1, q, o, _, by omega, by omega, by go_num, rfl, HN, ho, hob, hb, hown⟩
        case measure => simp [intOf]; omega
    · obtain rfl : k = nm := by omega
      have he := HE.out
      rw [hp.out] at he
      have HGI : Hid (∀ i, i < q → nth o i < n) := fun i hi => HGI2.out _ (by rw [← he]; exact nth_mem (by rw [ho.out]; exact hi))
      have HF := Lib.hid (fun v vg w hs hg => HFAR.out q o v vg w hs hg (by omega) ho HGI)
      rw [he] at HF hown
      clear he HFAR
      go_wp2_with (first | (go_at_call 93; refine (HF.out _ _ _ (HSM.out.kept hb) (hown.sl (by omega))).mono ?_; rintro e' w2 ⟨v2, rfl, hb2, ho2⟩))
      go_ret
      exact ⟨_, rfl, kept_trans hb hb2, ho2.base_le hb.size⟩

end Go.Proofs.Ytkloolhngddpiaa
