/- A list's text, and a list of numbers read off its text: the program. -/
import Derived.Test.YtjmklkhdemolmaaGreatDoorRlQ
import Derived.Test.YtjmklkhdemolmaaGreatDoorMrgB
import Derived.Test.YtjmklkhdemolmaaGreatDoorFuncs
namespace Go.Proofs.YtjmklkhdemolmaaGreatDoor
open Go.RowKit Go.Deep
set_option linter.unusedVariables false
set_option maxRecDepth 100000

theorem infoStrZ : (Tryz.prog.info? 9).map (fun i => (i.zero, i.size, i.bytes)) = some (some (.string ⟨#[]⟩), 1, 16) := by kernel_rfl
/-- A list's element by its place. -/
def gz (L : List Int) (i : Nat) : Int := L.getD i 0
theorem iz_ic (L : List Int) : iz L = ic (gz L) := by unfold iz ic gz; rfl
theorem all_allTo (f : Int → Bool) (L : List Int) : L.all f = allTo (fun i => f (gz L i)) L.length := by
  cases h : allTo (fun i => f (gz L i)) L.length with
  | true =>
    rw [List.all_eq_true]
    intro x hx
    obtain ⟨k, hk, rfl⟩ := List.mem_iff_getElem.1 hx
    have := allTo_out h k hk
    unfold gz at this
    simpa [hk] using this
  | false =>
    rw [List.all_eq_false]
    have : ¬ ∀ i, i < L.length → f (gz L i) = true := fun hh => by rw [allTo_yes hh] at h; cases h
    obtain ⟨i, hi⟩ := Classical.not_forall.1 this
    obtain ⟨hi, hn⟩ := Classical.not_imp.1 hi
    unfold gz at hn
    exact ⟨L[i], List.getElem_mem hi, by simpa [hi] using hn⟩
theorem words_eq (L : List Int) : ((List.range L.length).map fun i => bsL (Lib.itoa (gz L i))).map (·.data.toList) = L.map Lib.itoa := by
  rw [List.map_map, ← range_getD Lib.itoa 0 L]
  rfl
attribute [irreducible] gz

theorem listClosureZ (x : Int) (W : World) : Calls Tryz.prog 50 #[.int .i64 x] W fun e W' => e = .returned (.bool (!inB x (-1000000000000) 1000000000000)) ∧ Below W.heap.size W W' := by
  have HV := Lib.hid (fun w => i_isValue x w)
  go_enter Tryz.func50, Tryz.ntmps50
  go_wp2_with (go_at_call 51; refine (HV.out _).mono ?_; rintro e w' ⟨rfl, rfl⟩)
  go_ret
  exact ⟨rfl, Below.refl _ _⟩

set_option maxHeartbeats 1600000 in
theorem i_ListZ (v : Value) (L : List Int) (W : World) (hs : Sl W v 1 L.length (iz L)) (htab : Tab10 W) : Calls Tryz.prog 32 #[v] W fun e W' => e = .returned (.string (listZ L)) ∧ Below W.heap.size W W' := by
  obtain ⟨i0, hi, hz0, hz1, hz2⟩ := info_parts infoStrZ
  rw [iz_ic] at hs
  have hcf := containsFunc_ints 50 #[] (fun i => !inB (gz L i) (-1000000000000) 1000000000000) v L.length (gz L) W hs ⟨enters Tryz.func50 (by kernel_rfl) rfl, fun i hi w _ => listClosureZ (gz L i) w⟩
  have e0 : allTo (fun i => !!inB (gz L i) (-1000000000000) 1000000000000) L.length = L.all (fun x => inB x (-1000000000000) 1000000000000) := by rw [all_allTo]; simp only [Bool.not_not]
  rw [e0] at hcf
  by_cases hlong : 64 < L.length
  · have hf : fitZ L = false := by unfold fitZ; rw [decide_eq_false (by omega), Bool.false_and]
    rw [listZ_no hf]
    obtain ⟨hn, ao, cap, rfl, hr⟩ := hs
    clear hcf e0 hr hf
    generalize L.length = n at *
    go_enter Tryz.func32, Tryz.ntmps32
    go_wp2
    go_ret
    exact ⟨rfl, Below.refl _ _⟩
  · cases hall : L.all (fun x => inB x (-1000000000000) 1000000000000)
    · have hf : fitZ L = false := by unfold fitZ; rw [hall, Bool.and_false]
      rw [hall] at hcf
      have HCF := Lib.hid hcf
      rw [listZ_no hf]
      obtain ⟨hn, ao, cap, rfl, hr⟩ := hs
      clear hcf e0 hr hf hall
      generalize L.length = n at *
      go_enter Tryz.func32, Tryz.ntmps32
      go_wp2_with (go_at_call 49; refine HCF.out.mono ?_; rintro e w1 ⟨rfl, hb1⟩)
      go_ret
      exact ⟨rfl, hb1⟩
    · have hf : fitZ L = true := by unfold fitZ; rw [hall, Bool.and_true, decide_eq_true_iff]; omega
      rw [hall] at hcf
      have HCF := Lib.hid hcf
      by_cases hnil : L = []
      · subst hnil
        rw [listZ_nil]
        obtain ⟨hn, ao, cap, rfl, hr⟩ := hs
        clear hcf e0 hr hf hall hlong
        have e1 : ([] : List Int).length = 0 := rfl
        rw [e1] at *
        go_enter Tryz.func32, Tryz.ntmps32
        go_wp2_with (go_at_call 49; refine HCF.out.mono ?_; rintro e w1 ⟨rfl, hb1⟩)
        go_ret
        exact ⟨rfl, hb1⟩
      · rw [listZ_yes hf hnil]
        have hsz := listZ_size L hf
        have hne : L.length ≠ 0 := fun h => hnil (List.length_eq_zero_iff.1 h)
        have HZ : Hid (∀ i, i < L.length → -1000000000000000000 < gz L i ∧ gz L i < 1000000000000000000) := fun i hi => by
          rw [all_allTo] at hall
          have := inB_out (allTo_out hall i hi)
          omega
        have HW := Lib.hid (words_eq L)
        clear hcf e0 hf hall hnil
        generalize (L.map Lib.itoa) = ML at *
        generalize gz L = z at *
        generalize L.length = n at *
        obtain ⟨hn, ao, cap, rfl, hr⟩ := hs
        rcases hr with h0 | ⟨g, off, rfl, hr⟩
        · omega
        have hn0 : ((n : Int) == 0) = false := by rw [beq_eq_false_iff_ne]; omega
        go_enter Tryz.func32, Tryz.ntmps32
        go_wp2_with (go_at_call 49; refine HCF.out.mono ?_; rintro e w1 ⟨rfl, hb1⟩)
        generalize ((n : Int) == 0) = q0 at *
        clear hn0
        go_loopw [3, 18] (fun u i wr => ∃ (k : Nat) (y : Value), k ≤ n ∧ i = .int .i64 k ∧ y = u ∧ Below W.heap.size W wr ∧ Out wr W.heap.size 9 1 y k (sc fun i => bsL (Lib.itoa (z i)))) (fun _ i _ => n - (intOf i).toNat)
        case atStart => exact ⟨0, _, by omega, rfl, rfl, hb1, Out.nil _ _ _ _ _⟩
        case round =>
          clear hb1
          obtain ⟨k, y, hk, rfl, rfl, hb, hown⟩ := hrel
          by_cases hlt : k < n
          · have hcell := (hr.kept hb).cell (i := k) (by omega)
            simp only [ic] at hcell
            have hzk := HZ.out k hlt
            have HD := Lib.hid (i_DecZ (z k) hzk wr (htab.kept hb))
            clear hr hzk
            go_wp2_with (first | (at_builtin; refine wpList_append_own _ rfl _ _ 28 rfl _ 9 i0 _ 1 16 Tryz.underlying28 hi hz0 hz1 hz2 rfl (by decide) _ _ _ rfl ((hownA).row.alloc _) ⟨x1.heap.size, 0, none⟩ 1 1 _ (by rfl) (by rfl) (laid_at (by simp)) (by intro u hu; simp at hu; first | (rcases hu with rfl | rfl <;> rfl) | (subst hu; rfl)) (by simp only [maxLen]; omega) (by omega) (by have hbs := hbA.size; simp at hbs ⊢; omega) ?_; intro v1 w1 hown1 hgrow1 _) | (go_at_call 52; refine HD.out.mono ?_; rintro e x1 ⟨rfl, hbx1⟩; have hownA := hown.kept hbx1; have hbA := kept_trans hb hbx1))
            have R1 := Lib.hid (Out.snoc1 hown1 rfl)
            have R2 := below_of_append hbA hownA.row hgrow1
            clear hown hownA hown1 hgrow1 hb
            try go_wp2
            go_roundw
            case rel => exact ⟨k + 1, _, by omega, by go_num, rfl, R2, R1.out⟩
            case measure => simp [intOf]; omega
          · obtain rfl : k = n := by omega
            clear hr
            obtain ⟨bk, cp, rfl, hbk, hrow⟩ := hown.opened (by omega)
            have hcp : k ≤ cp := by
              rcases hown.2 with ⟨h0, -⟩ | ⟨gg, cc, cur, h0, -, -, hnc, -⟩
              · simp at h0
              · simp at h0
                omega
            have HJ := Lib.hid (Tryz.strings_Join bk 0 cp ((List.range k).map fun i => bsL (Lib.itoa (z i))) ⟨#[44]⟩ wr (fun j x hj => by
              have hjk : j < k := by
                have := (List.getElem?_eq_some_iff.1 hj).1
                simpa using this
              have hx : x = bsL (Lib.itoa (z j)) := by
                rw [List.getElem?_map, List.getElem?_range hjk] at hj
                simpa using hj.symm
              subst hx
              exact hrow.cell (i := j) (by omega)) hrow.1 (by simp; omega) (by simpa using hcp) (by
                have e : (⟨#[44]⟩ : ByteArray).data.toList = [44] := rfl
                rw [e, HW.out]; omega))
            rw [show (⟨#[44]⟩ : ByteArray).data.toList = [44] from rfl, HW.out, show ((List.range k).map fun i => bsL (Lib.itoa (z i))).length = k by simp] at HJ
            clear hown hrow HW
            go_wp2_with (go_at_call 53; refine HJ.out.mono ?_; rintro e x2 ⟨rfl, hbx2⟩)
            go_ret
            exact ⟨rfl, kept_trans hb hbx2⟩

/-- What the listed variables give a walk that splits: the table, the error, and that MaxLen is some number. -/
def TabM (W : World) : Prop := Tab10 W ∧ ErrS W ∧ ∃ m, W.cell? ⟨0, 0, none⟩ = some (.int .i64 m)
theorem TabM.kept {w w' : World} (h : TabM w) (hb : Below w.heap.size w w') : TabM w' := ⟨h.1.kept hb, h.2.1.kept hb, h.2.2.elim fun m hm => ⟨m, cell_keep hb hm⟩⟩

/-- strings.Split at a comma. -/
theorem c_Split (s : ByteArray) (W : World) (hs : s.size ≤ 1048576) (h : TabM W) : Calls Tryz.prog 56 #[.string s, .string ⟨#[44]⟩] W fun e W' => ∃ g, e = .returned (.slice (some ⟨g, 0, none⟩) (splB 44 s).length (splB 44 s).length) ∧ Below W.heap.size W W' ∧ ∀ k, k < (splB 44 s).length → W'.cell? ⟨g, k, none⟩ = some (.string (partZ s k)) := by
  obtain ⟨m, hm⟩ := h.2.2
  refine (Tryz.strings_Split s ⟨#[44]⟩ m W (by omega) hm (by show 1 ≤ 1; omega)).mono ?_
  rintro e w' ⟨rfl, rfl⟩
  rw [split_spl 44 _ s rfl]
  have hl := split_len 44 s
  refine ⟨W.heap.size, ?_, kept_alloc (Below.refl _ _) _, fun k hk => ?_⟩
  · rw [← hl]
  · refine boxed_at rfl ?_
    rw [List.getElem?_toArray, List.getElem?_map, List.getElem?_eq_getElem hk]
    unfold partZ
    simp [hk]

theorem splB_le (s : ByteArray) (hs : s.size ≤ 1048576) : (splB 44 s).length ≤ 1048577 := by
  have h1 := split_len 44 s
  have h2 := Lib.countB_le ⟨#[44]⟩ (by show 1 ≤ 1; omega) s.size s (Nat.le_refl _)
  omega

set_option maxHeartbeats 1600000 in
theorem i_ReadList (s : ByteArray) (W : World) (hs : s.size ≤ 1048576) (htab : TabM W) : Calls Tryz.prog 46 #[.string s] W fun e W' => ∃ g, e = .returned (.tuple #[g, .bool (rlB s)]) ∧ Below W.heap.size W W' ∧ Sl W' g 1 (rlL s).length (iz (rlL s)) := by
  obtain ⟨i0, hi, hz0, hz1, hz2⟩ := info_parts infoZ
  by_cases hd : s = ⟨#[45]⟩
  · obtain ⟨h1, h2⟩ := rl_dash hd
    rw [h1, h2]
    subst hd
    clear h1 h2
    go_enter Tryz.func46, Tryz.ntmps46
    go_wp2
    refine bodyPost_ret (results_tmp2 rfl _ _ _) rfl ⟨_, rfl, Below.refl _ _, (Out.nil _ 0 2 1 _).sl (by simp)⟩
  · have hq : (s.toList == (⟨#[45]⟩ : ByteArray).toList) = false := neq_lists hd
    rw [show (⟨#[45]⟩ : ByteArray).toList = [45] by rw [ByteArray.toList_eq]] at hq
    have HSPL := Lib.hid (c_Split s W hs htab)
    have HTB := Lib.hid htab
    have hsl := splB_le s hs
    have HQ : Hid ((listZ (numsK (partZ s) (splB 44 s).length) = s ∧ rlB s = true ∧ rlL s = numsK (partZ s) (splB 44 s).length) ∨ ((((listZ (numsK (partZ s) (splB 44 s).length)).toList == s.toList) = false) ∧ rlB s = false ∧ rlL s = [])) := by
      rw [nums_eq]
      have hb := list_back hd
      have hr := rl_of hd
      by_cases h : listZ (numsS s) = s
      · have h2 := hb.1 h
        rw [if_pos h2] at hr
        exact .inl ⟨h, h2, hr⟩
      · have h2 : ¬ rlB s = true := fun e => h (hb.2 e)
        rw [if_neg h2] at hr
        exact .inr ⟨neq_lists h, by simpa using h2, hr⟩
    have HN : Hid (∀ k w, TabM w → Calls Tryz.prog 57 #[.string (partZ s k)] w fun e W' => e = .returned (.tuple #[.int .i64 (numV (partZ s k).data.toList), .bool (numB (partZ s k).data.toList)]) ∧ Below w.heap.size w W') := fun k w h => i_ReadDecimal _ w (Nat.le_trans (part_size s k) hs) h.1 h.2.1
    have HLT : Hid (∀ v w, Sl w v 1 (numsK (partZ s) (splB 44 s).length).length (iz (numsK (partZ s) (splB 44 s).length)) → TabM w → Calls Tryz.prog 32 #[v] w fun e W' => e = .returned (.string (listZ (numsK (partZ s) (splB 44 s).length))) ∧ Below w.heap.size w W') := fun v w h1 h2 => i_ListZ v _ w h1 h2.1
    have HK0 := Lib.hid (numsK_zero (partZ s))
    have HKS := Lib.hid (numsK_succ (partZ s))
    clear hd htab
    generalize rlB s = B at *
    generalize rlL s = RL at *
    generalize hnv : (fun k => numV (partZ s k).data.toList) = nv
    generalize hnb : (fun k => numB (partZ s k).data.toList) = nb
    have e1 : ∀ k, numV (partZ s k).data.toList = nv k := fun k => by subst hnv; rfl
    have e2 : ∀ k, numB (partZ s k).data.toList = nb k := fun k => by subst hnb; rfl
    simp only [e1, e2] at HN HKS
    clear e1 e2 hnv hnb
    generalize numsK (partZ s) = NK at *
    generalize partZ s = pz at *
    generalize (splB 44 s).length = n at *
    go_enter Tryz.func46, Tryz.ntmps46
    go_wp2_with (go_at_call 56; refine HSPL.out.mono ?_; rintro e w1 ⟨g, rfl, hb1, hcells⟩)
    go_loopw [4, 14] (fun u i wr => ∃ (k : Nat) (z : Value), k ≤ n ∧ i = .int .i64 k ∧ z = u ∧ Below w1.heap.size w1 wr ∧ (NK k).length = k ∧ Out wr w1.heap.size 2 1 z (NK k).length (iz (NK k))) (fun _ i _ => n - (intOf i).toNat)
    case atStart => exact ⟨0, _, by omega, rfl, rfl, Below.refl _ _, by rw [HK0.out]; rfl, by rw [HK0.out]; exact Out.nil _ _ _ _ _⟩
    case round =>
      obtain ⟨k, z, hk, rfl, rfl, hbl, hlen, hown⟩ := hrel
      by_cases hlt : k < n
      · have c0 := cell_keep hbl (hcells k hlt)
        have HC := Lib.hid (HN.out k wr ((HTB.out.kept hb1).kept hbl))
        have hK := HKS.out k
        clear hcells
        go_wp2_with (first | (at_builtin; refine wpList_append_own _ rfl _ _ 25 rfl _ 2 i0 _ 1 8 Tryz.underlying25 hi hz0 hz1 hz2 rfl (by decide) _ _ _ rfl ((hownA).row.alloc _) ⟨x1.heap.size, 0, none⟩ 1 1 _ (by rfl) (by rfl) (laid_at (by simp)) (by intro u hu; simp at hu; first | (rcases hu with rfl | rfl <;> rfl) | (subst hu; rfl)) (by simp only [maxLen]; omega) (by omega) (by have hbs := hbA.size; simp at hbs ⊢; omega) ?_; intro v1 w1 hown1 hgrow1 _) | (go_at_call 57; refine HC.out.mono ?_; rintro e x1 ⟨rfl, hbx1⟩; have hownA := hown.kept hbx1; have hbA := kept_trans hbl hbx1))
        have R1 := Lib.hid (Out.snocZ hown1)
        have R2 := below_of_append hbA hownA.row hgrow1
        clear hown hownA hown1 hgrow1 hbl c0
        try go_wp2
        go_roundw
        case rel => exact ⟨k + 1, _, by omega, by go_num, rfl, R2, by rw [hK]; simp; omega, by rw [hK]; exact R1.out⟩
        case measure => simp [intOf]; omega
      · obtain rfl : k = n := by omega
        have hsl2 := hown.sl (by omega)
        have HL := Lib.hid (HLT.out _ wr hsl2 ((HTB.out.kept hb1).kept hbl))
        have HSl := Lib.hid hsl2
        clear hcells hown hsl2
        rcases HQ.out with ⟨q1, q2, q3⟩ | ⟨q1, q2, q3⟩
        · rw [q1] at HL
          have hr : Hid (B = true ∧ RL = NK k) := ⟨q2, q3⟩
          clear q1 q2 q3 HQ HLT
          go_wp2_with (go_at_call 32; refine HL.out.mono ?_; rintro e x2 ⟨rfl, hbx2⟩)
          refine bodyPost_ret (results_tmp2 rfl _ _ _) rfl ⟨_, by rw [hr.out.1]; rfl, kept_trans (kept_trans hb1 hbl) hbx2, by rw [hr.out.2]; exact HSl.out.kept hbx2⟩
        · generalize listZ (NK k) = Q at *
          have hr : Hid (B = false ∧ RL = []) := ⟨q2, q3⟩
          clear q2 q3 HQ HLT
          go_wp2_with (go_at_call 32; refine HL.out.mono ?_; rintro e x2 ⟨rfl, hbx2⟩)
          refine bodyPost_ret (results_tmp2 rfl _ _ _) rfl ⟨_, by rw [hr.out.1]; rfl, kept_trans (kept_trans hb1 hbl) hbx2, by rw [hr.out.2]; exact (Out.nil _ 0 2 1 _).sl (by simp)⟩

end Go.Proofs.YtjmklkhdemolmaaGreatDoor
