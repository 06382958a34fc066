/- The library's Clone and Insert at []Ride. -/
import Derived.Test.YtcbceodlakbpdaaAddR
import Derived.Deep.RegionLaw
import Derived.Lib.Overlaps
import Derived.Laws.Externs
import Derived.Lib.SliceRun
import Derived.IntWalk
import Derived.Lib.AppendZeros
namespace Go.Proofs.Ytcbceodlakbpdaa
open Go.RowKit Go.Deep
set_option linter.unusedVariables false

theorem rc_one0 (lv tk : Nat → Int) (m : Nat) : ∀ u ∈ cellsN (rc lv tk) m, u.oneCell' = true := by
  intro u hu
  simp only [cellsN, List.mem_map] at hu
  obtain ⟨j, -, rfl⟩ := hu
  rfl

theorem f_Clone (b n cp : Nat) (lv tk : Nat → Int) (W : World) (hn : n ≤ 24) (hs : Row W b 0 (n * 2) (rc lv tk)) :
    Calls Try.prog 66 #[.slice (some ⟨b, 0, none⟩) n cp] W fun e W' => ∃ v, e = .returned v ∧ Below W.heap.size W W' ∧ v ≠ .slice none 0 0 ∧ W'.ownsRow W.heap.size 48 2 v n (cellsN (rc lv tk) (n * 2)) := by
  obtain ⟨i0, hi, hz0, hz1, hz2⟩ := info_parts infoRide
  have S1 : Hid (∀ w, Below W.heap.size W w → ∀ j u, (cellsN (rc lv tk) (n * 2))[j]? = some u → w.cell? ((⟨b, 0, none⟩ : Addr).add j) = some u) := fun w hb j u hj => by
    have h1 := (hs.kept hb).list (a := 0) (m := n * 2) (by omega) j u (by simpa using hj)
    exact h1
  clear hs
  have hq : ∀ (w : World) (a : Option Addr) (n c n' c' : Nat), (binOp .eql 26 (.slice a n c) (.slice none n' c')).run Try.prog w = .ok (.bool a.isNone) w := fun w a n c n' c' => Lib.run_eql_slice_nil w _ _ a n c n' c' Try.underlying26
  go_enter Try.func66, Try.ntmps66
  go_wp2_with (at_builtin; go_loud (refine wpList_append_own _ rfl _ _ 26 rfl W.heap.size 48 i0 _ 2 16 Try.underlying26 hi hz0 hz1 hz2 rfl (by decide) (.slice (some ⟨W.heap.size, 0, none⟩) 0 0) _ _ rfl (World.ownsRow_made W #[] 0 (Nat.le_refl _) (Nat.zero_le _) rfl) ⟨b, 0, none⟩ _ _ (cellsN (rc lv tk) (n * 2)) rfl (by rw [cellsN_length] <;> omega) (S1.out _ (kept_alloc (Below.refl _ _) _)) (rc_one0 _ _ _) (by simp only [maxLen]; omega) (by omega) (by simp) ?_); intro v1 w1 hown1 hgrow1 hnil1)
  go_wp2
  go_ret
  refine ⟨v1, rfl, keep_made (Below.refl _ _) hgrow1 (Nat.le_refl _) (own_at (Nat.le_refl _)), fun h => ?_, by simpa using hown1⟩
  have := (hnil1.1 h).1
  simp at this

/-- A row of rides in block g that is known whole, and a single ride in block vb. -/
structure InsIn (W : World) (g n c vb : Nat) (cur : Array Value) (lv tk : Nat → Int) (l t : Int) : Prop where
  hg : W.heap[g]? = some (.cells cur 48 (0, 0))
  hc : n ≤ c
  hcm : c ≤ maxLen
  hcs : cur.size = c * 2
  hcur : ∀ j, j < n * 2 → cur.toList[j]? = some (rc lv tk j)
  hv : W.heap[vb]? = some (.cells #[.int .i64 l, .int .i64 t] 48 (0, 0))
  hne : vb ≠ g

theorem ins_take {M : List Value} {n k : Nat} {lv tk : Nat → Int} {l t : Int} (hk : k ≤ n) (h1 : ∀ j, j < k * 2 → M[j]? = some (rc lv tk j)) (h2 : M[k * 2]? = some (.int .i64 l)) (h3 : M[k * 2 + 1]? = some (.int .i64 t))
    (h4 : ∀ j, j < (n - k) * 2 → M[(k + 1) * 2 + j]? = some (rc lv tk (k * 2 + j))) : M.take ((n + 1) * 2) = cellsN (rc (insF k l lv) (insF k t tk)) ((n + 1) * 2) := by
  apply List.ext_getElem?
  intro j
  rw [List.getElem?_take]
  by_cases hj : j < (n + 1) * 2
  · rw [if_pos hj, cellsN_get hj]
    by_cases c1 : j < k * 2
    · rw [h1 j c1, ins_low c1]
    · by_cases c2 : j = k * 2
      · rw [c2, h2, ins_at0]
      · by_cases c3 : j = k * 2 + 1
        · rw [c3, h3, ins_at1]
        · have := h4 (j - (k + 1) * 2) (by omega)
          rw [show (k + 1) * 2 + (j - (k + 1) * 2) = j by omega] at this
          rw [this, show j = k * 2 + 2 + (j - (k + 1) * 2) by omega, ins_high, show k * 2 + 2 + (j - (k + 1) * 2) - (k + 1) * 2 = j - (k + 1) * 2 by omega]
  · rw [if_neg hj, List.getElem?_eq_none (by rw [cellsN_length]; omega)]

theorem one_copy {g k n dc vb : Nat} {A : List Value} {l t : Int} {w : World} {ty : TypeId} (hg : w.heap[g]? = some (.cells A.toArray 48 (0, 0))) (hv : w.heap[vb]? = some (.cells #[.int .i64 l, .int .i64 t] 48 (0, 0))) (hk : k < n) (hA : (n + 1) * 2 ≤ A.length) :
    (Builtin.copy_ #[26, 26] ty #[.slice (some ⟨g, k * 2, none⟩) (n + 1 - k) dc, .slice (some ⟨vb, 0, none⟩) 1 1]).run Try.prog w = .ok (goInt 1) (w.setRow g (splice A (k * 2) [.int .i64 l, .int .i64 t]).toArray) := by
  have h := run_copy_wide (P := Try.prog) w 26 26 ty 48 g (k * 2) (n + 1 - k) dc ⟨vb, 0, none⟩ 1 1 A.toArray 48 2 1 [.int .i64 l, .int .i64 t] Try.underlying26 (by kernel_rfl) hg (by simp only [Nat.min_def]; split <;> omega) rfl
    (fun j u hj => by rw [addr_lit, Nat.zero_add, cell_of_row w vb j _ _ (0, 0) hv]; simpa using hj) (by simp; omega) (by intro u hu; simp at hu; rcases hu with rfl | rfl <;> rfl)
  exact h

set_option maxHeartbeats 400000 in
theorem f_Insert_room (g n c vb k : Nat) (cur : Array Value) (lv tk : Nat → Int) (l t : Int) (W : World) (h : InsIn W g n c vb cur lv tk l t) (hk : k < n) (hn : n ≤ 24) (hr : n + 1 ≤ c) :
    Calls Try.prog 65 #[.slice (some ⟨g, 0, none⟩) n c, .int .i64 k, .slice (some ⟨vb, 0, none⟩) 1 1] W fun e W' => ∃ v, e = .returned v ∧ W.grownBy W' (some g) ∧ W'.ownsRow g 48 2 v (n + 1) (cellsN (rc (insF k l lv) (insF k t tk)) ((n + 1) * 2)) := by
  have hc1 : ¬ c = k + 1 := by omega
  have hc2 : ¬ c = k := by omega
  have hc3 : ¬ c = 0 := by omega
  have hc4 : ¬ (c : Int) < (n : Int) + 1 := by omega
  have hc5 : ¬ (k : Int) = (n : Int) := by omega
  have hw1 : IntKind.i64.wrap ((k : Int) + 1) = (k : Int) + 1 := IntWalk.i64_in _ (by omega)
  have hw2 : (0 : Int) ≤ (k : Int) + 1 := by omega
  have hw3 : (k : Int) ≤ (n : Int) := by omega
  have hw5 : (k : Int) ≤ (n : Int) + 1 := by omega
  have hw4 : ((k : Int) + 1).toNat = k + 1 := by omega
  have hov : ∀ lb cb, (callFunc 72 #[.slice (some ⟨vb, 0, none⟩) 1 1, .slice (some ⟨g, (k + 1) * 2, none⟩) lb cb]).run Try.prog W = .ok (.value (.bool false)) W := fun lb cb => by
    rw [run_callFunc_extern Try.func72 (by kernel_rfl) (by kernel_rfl) (by kernel_rfl) (e := Extern.SlicesOverlaps.overlaps #[26, 26] #[4]) (by kernel_rfl),
      Lib.run_overlaps_apart W 26 4 48 Try.underlying26 2 Try.sizeOf48 ⟨vb, 0, none⟩ ⟨g, (k + 1) * 2, none⟩ 1 1 lb cb h.hne 48 48 2 (c * 2) (by simp [World.shape?, h.hv]) (by simp [World.shape?, h.hg, h.hcs]) (by omega) (by simp [World.frozen?, h.hv]) (by simp [World.frozen?, h.hv])]
    rfl
  have H := Lib.hid h
  clear h
  have hsz : (Try.prog.info? 48).map (·.size) = some 2 := by kernel_rfl
  have hsrc1 : Hid (∀ j u, (cellsN (fun i => rc lv tk (k * 2 + i)) ((n - k) * 2))[j]? = some u → W.drew.cell? ((⟨g, k * 2, none⟩ : Addr).add j) = some u) := fun j u hj => by
    obtain ⟨h1, rfl⟩ := cellsN_at hj
    rw [addr_lit]
    have h2 : W.drew.heap[g]? = some (.cells cur 48 (0, 0)) := H.out.hg
    rw [cell_of_row W.drew g (k * 2 + j) cur _ (0, 0) h2]
    have := H.out.hcur (k * 2 + j) (by omega)
    simpa using this
  have hgd : Hid (W.drew.heap[g]? = some (.cells cur 48 (0, 0))) := H.out.hg
  have hl1 := cellsN_length (fun i => rc lv tk (k * 2 + i)) ((n - k) * 2)
  have ho1 := Lib.hid (rc_one lv tk (k * 2) ((n - k) * 2))
  have hL1 : Hid ((cellsN (fun i => rc lv tk (k * 2 + i)) ((n - k) * 2)).length = (n - k) * 2) := hl1
  have hm1 : Hid (n - k = Nat.min (n + 1 - k) (n + 1 - (k + 1))) := by show _ = _; simp only [Nat.min_def]; split <;> omega
  clear hl1
  have hfit1 : Hid ((k + 1) * 2 + (cellsN (fun i => rc lv tk (k * 2 + i)) ((n - k) * 2)).length ≤ cur.size) := by show _ ≤ _; rw [cellsN_length, H.out.hcs]; omega
  obtain ⟨cs1, hE1⟩ : ∃ cs1, Hid (cs1 = cellsN (fun i => rc lv tk (k * 2 + i)) ((n - k) * 2)) := ⟨_, rfl⟩
  rw [← hE1.out] at hsrc1 hL1 ho1 hfit1
  go_enter Try.func65, Try.ntmps65
  go_wp2_with (simp only [hov])
  go_region_law (refine step_copy_wide (dLen := n + 1 - (k + 1)) (dCap := c - (k + 1)) (sLen := n + 1 - k) (sCap := c - k) rfl (.tmp 73) (.tmp 76) 26 26 rfl 48 g ((k + 1) * 2) ⟨g, k * 2, none⟩ cur 48 2 (n - k) cs1 (by simp [Act.eval, Act.put]) (by simp [Act.eval, Act.put]) Try.underlying26 hsz hgd.out hm1.out hL1.out hsrc1.out hfit1.out ho1.out ?_; intro w1 hg1 hgr1)
  have hA : Hid ((n + 1) * 2 ≤ (splice cur.toList ((k + 1) * 2) cs1).length) := by
    show _ ≤ _
    rw [length_splice _ _ _ (by have := hfit1.out; simpa using this)]
    have := H.out.hcs
    simp; omega
  have hv1 : Hid (w1.heap[vb]? = some (.cells #[.int .i64 l, .int .i64 t] 48 (0, 0))) := by
    have h1 : vb < W.drew.heap.size := (Array.getElem?_eq_some_iff.1 H.out.hv).1
    exact (hgr1.out.block vb h1 (by simp; exact H.out.hne)).trans H.out.hv
  have hcp : ∀ ty dc, (Builtin.copy_ #[26, 26] ty #[.slice (some ⟨g, k * 2, none⟩) (n + 1 - k) dc, .slice (some ⟨vb, 0, none⟩) 1 1]).run Try.prog w1 = .ok (goInt 1) (w1.setRow g (splice (splice cur.toList ((k + 1) * 2) cs1) (k * 2) [.int .i64 l, .int .i64 t]).toArray) := fun ty dc =>
    one_copy hg1.out hv1.out hk hA.out
  have hG2 : Hid ((w1.setRow g (splice (splice cur.toList ((k + 1) * 2) cs1) (k * 2) [.int .i64 l, .int .i64 t]).toArray).heap[g]? = some (.cells (splice (splice cur.toList ((k + 1) * 2) cs1) (k * 2) [.int .i64 l, .int .i64 t]).toArray 48 (0, 0))) := setRow_heap w1 g _ _ _ _ hg1.out
  have hgr2 : Hid (W.grownBy (w1.setRow g (splice (splice cur.toList ((k + 1) * 2) cs1) (k * 2) [.int .i64 l, .int .i64 t]).toArray) (some g)) := by
    have h2 := grown_setRow w1 g (splice (splice cur.toList ((k + 1) * 2) cs1) (k * 2) [.int .i64 l, .int .i64 t]).toArray
    have h1 := hgr1.out
    exact ⟨h2.os.trans h1.os, h2.tape.trans h1.tape, h2.output.trans h1.output, Nat.le_trans h1.size h2.size, fun i hi hne => (h2.block i (Nat.lt_of_lt_of_le hi h1.size) hne).trans (h1.block i hi hne)⟩
  obtain ⟨w2, hw2⟩ : ∃ w2, w2 = w1.setRow g (splice (splice cur.toList ((k + 1) * 2) cs1) (k * 2) [.int .i64 l, .int .i64 t]).toArray := ⟨_, rfl⟩
  rw [← hw2] at hcp hG2 hgr2
  clear hw2
  go_wp2
  go_ret
  refine ⟨_, rfl, hgr2.out, ?_⟩
  have hcs := H.out.hcs
  have hf1 := hfit1.out
  have hl1 := hL1.out
  have hA := hA.out
  have hcl : cur.toList.length = c * 2 := by simpa using hcs
  have hlen : (splice (splice cur.toList ((k + 1) * 2) cs1) (k * 2) [.int .i64 l, .int .i64 t]).length = c * 2 := by
    rw [length_splice _ _ _ (by simp; omega), length_splice _ _ _ (by rw [hcl]; omega), hcl]
  refine ⟨cellsN_length _ _, .inr ⟨g, c, _, rfl, Nat.le_refl _, hG2.out, hr, H.out.hcm, by simpa using hlen, ?_⟩⟩
  have hsp : ∀ j, (splice (splice cur.toList ((k + 1) * 2) cs1) (k * 2) [.int .i64 l, .int .i64 t])[j]? = if k * 2 ≤ j ∧ j < k * 2 + 2 then ([.int .i64 l, .int .i64 t] : List Value)[j - k * 2]? else if (k + 1) * 2 ≤ j ∧ j < (k + 1) * 2 + cs1.length then cs1[j - (k + 1) * 2]? else cur.toList[j]? := fun j => by
    rw [splice_at _ _ _ _ (by simp; omega), splice_at _ _ _ _ (by rw [hcl]; omega)]
    rfl
  refine ins_take (by omega) (fun j hj => ?_) ?_ ?_ (fun j hj => ?_)
  · rw [hsp, if_neg (by omega), if_neg (by omega)]; exact H.out.hcur j (by omega)
  · rw [hsp, if_pos (by omega), show k * 2 - k * 2 = 0 by omega]; rfl
  · rw [hsp, if_pos (by omega), show k * 2 + 1 - k * 2 = 1 by omega]; rfl
  · rw [hsp, if_neg (by omega), if_pos (by omega), show (k + 1) * 2 + j - (k + 1) * 2 = j by omega, hE1.out, cellsN_get hj]

theorem InsIn.own {W : World} {g n c vb : Nat} {cur : Array Value} {lv tk : Nat → Int} {l t : Int} (h : InsIn W g n c vb cur lv tk l t) : W.ownsRow g 48 2 (.slice (some ⟨g, 0, none⟩) n c) n (cellsN (rc lv tk) (n * 2)) := by
  refine ⟨cellsN_length _ _, .inr ⟨g, c, cur, rfl, Nat.le_refl _, h.hg, h.hc, h.hcm, h.hcs, ?_⟩⟩
  apply List.ext_getElem?
  intro j
  rw [List.getElem?_take]
  by_cases hj : j < n * 2
  · rw [if_pos hj, cellsN_get hj, h.hcur j hj]
  · rw [if_neg hj, List.getElem?_eq_none (by rw [cellsN_length]; omega)]

theorem f_Insert_end (g n c vb : Nat) (cur : Array Value) (lv tk : Nat → Int) (l t : Int) (W : World) (h : InsIn W g n c vb cur lv tk l t) (hn : n ≤ 24) :
    Calls Try.prog 65 #[.slice (some ⟨g, 0, none⟩) n c, .int .i64 n, .slice (some ⟨vb, 0, none⟩) 1 1] W fun e W' => ∃ v, e = .returned v ∧ W.grownBy W' (some g) ∧ W'.ownsRow g 48 2 v (n + 1) (cellsN (rc (insF n l lv) (insF n t tk)) ((n + 1) * 2)) := by
  obtain ⟨i0, hi, hz0, hz1, hz2⟩ := info_parts infoRide
  have hown := h.own
  have H := Lib.hid h
  clear h
  have hgl : g ≤ W.heap.size := by have := (hown.lt g rfl).2; omega
  have hsrc : Hid (∀ j u, ([.int .i64 l, .int .i64 t] : List Value)[j]? = some u → W.cell? ((⟨vb, 0, none⟩ : Addr).add j) = some u) := fun j u hj => by
    rw [addr_lit, Nat.zero_add, cell_of_row W vb j _ _ (0, 0) H.out.hv]; simpa using hj
  have HL := Lib.hid (ins_list (Nat.le_refl n) l t lv tk)
  go_enter Try.func65, Try.ntmps65
  go_wp2_with (at_builtin; refine wpList_append_own _ rfl _ _ 26 rfl g 48 i0 _ 2 16 Try.underlying26 hi hz0 hz1 hz2 rfl (by decide) (.slice (some ⟨g, 0, none⟩) n c) _ _ rfl hown ⟨vb, 0, none⟩ 1 1 [.int .i64 l, .int .i64 t] rfl rfl hsrc.out (by intro u hu; simp at hu; rcases hu with rfl | rfl <;> rfl) (by simp only [maxLen]; omega) (by omega) hgl ?_; intro v1 w1 hown1 hgrow1 hnil1)
  all_goals
    go_ret
    refine ⟨v1, rfl, hgrow1, ?_⟩
    have e := HL.out
    rw [Nat.sub_self, Nat.zero_mul, show cellsN (fun i => rc lv tk (n * 2 + i)) 0 = [] from rfl, List.append_nil] at e
    rw [← e]
    rw [show cellsN (fun i => rc lv tk (0 + i)) (n * 2) = cellsN (rc lv tk) (n * 2) from cellsN_congr (fun i _ => by rw [Nat.zero_add])]
    exact hown1

set_option maxHeartbeats 800000 in
theorem f_Insert_grow (g n c vb k : Nat) (cur : Array Value) (lv tk : Nat → Int) (l t : Int) (W : World) (h : InsIn W g n c vb cur lv tk l t) (hk : k < n) (hn : n ≤ 24) (hr : c < n + 1) :
    Calls Try.prog 65 #[.slice (some ⟨g, 0, none⟩) n c, .int .i64 k, .slice (some ⟨vb, 0, none⟩) 1 1] W fun e W' => ∃ v, e = .returned v ∧ W.grownBy W' (some g) ∧ W'.ownsRow g 48 2 v (n + 1) (cellsN (rc (insF k l lv) (insF k t tk)) ((n + 1) * 2)) := by
  obtain ⟨i0, hi, hz0, hz1, hz2⟩ := info_parts infoRide
  have hcn := h.hc
  have hc2 : ¬ c = k := by omega
  have hc3 : ¬ c = 0 := by omega
  have hc4 : (c : Int) < (n : Int) + 1 := by omega
  have hc5 : ¬ (k : Int) = (n : Int) := by omega
  have hw1 : IntKind.i64.wrap ((k : Int) + 1) = (k : Int) + 1 := IntWalk.i64_in _ (by omega)
  have hw2 : (0 : Int) ≤ (k : Int) + 1 := by omega
  have hw3 : (k : Int) ≤ (n : Int) := by omega
  have hw5 : (k : Int) ≤ (n : Int) + 1 := by omega
  have hw6 : (k : Int) ≤ (c : Int) := by omega
  have hw4 : ((k : Int) + 1).toNat = k + 1 := by omega
  have H := Lib.hid h
  clear h
  have hkk : ((n : Int) + 1 - (k : Int)) = ((n + 1 - k : Nat) : Int) := by omega
  have hrow : Row W g 0 (n * 2) (rc lv tk) := by
    have h1 := Row.of_own H.out.own
    exact h1.congr (fun i hi => cellsN_getD hi)
  have hold : (Builtin.firstCells i0.size k (.slice (some ⟨g, 0, none⟩) k c)).run Try.prog W.drew = .ok (cellsN (rc lv tk) (k * 2)).toArray W.drew := by
    rw [hz1]
    refine run_firstCells_some W.drew 2 k ⟨g, 0, none⟩ k c (cellsN (rc lv tk) (k * 2)) (cellsN_length _ _) (fun j v hj => ?_)
    obtain ⟨h1, rfl⟩ := cellsN_at hj
    rw [addr_lit]
    exact hrow.cell (by omega)
  have hrz : ∀ ty, (Builtin.append_ #[26, 3] ty #[.slice (some ⟨g, 0, none⟩) k c, .int .i64 ((n : Int) + 1 - (k : Int))]).run Try.prog W =
      .ok (.slice (some ⟨W.heap.size, 0, none⟩) (n + 1) (grownCap W (n + 1) c 48)) (W.drew.alloc (.cells ((cellsN (rc lv tk) (k * 2)).toArray ++ Builtin.zeroCells (Value.agg #[.int .i64 0, .int .i64 0]).cells (n + 1 - k) ++ Builtin.zeroCells (Value.agg #[.int .i64 0, .int .i64 0]).cells (grownCap W (n + 1) c 48 - (n + 1))) 48)) := fun ty => by
    have h := Lib.run_append_grow_zeros W 26 3 ty 48 i0 _ .i64 .i64 Try.underlying26 Try.underlying3 hi hz0 (some ⟨g, 0, none⟩) k c (cellsN (rc lv tk) (k * 2)) hold (n + 1 - k) (by omega) (by omega) (by omega) (by omega) (by rw [hz2]; omega) (by rw [hz2]; exact growslice_fits (by omega) (by omega))
    rw [show k + (n + 1 - k) = n + 1 by omega] at h
    rw [hkk]
    exact h
  obtain ⟨G, hG⟩ : ∃ G, G = grownCap W (n + 1) c 48 := ⟨_, rfl⟩
  obtain ⟨ROW, hROW⟩ : ∃ ROW : Array Value, ROW = (cellsN (rc lv tk) (k * 2)).toArray ++ Builtin.zeroCells (Value.agg #[.int .i64 0, .int .i64 0]).cells (n + 1 - k) ++ Builtin.zeroCells (Value.agg #[.int .i64 0, .int .i64 0]).cells (G - (n + 1)) := ⟨_, rfl⟩
  rw [← hG] at hrz
  rw [← hROW] at hrz
  have hGn : n + 1 ≤ G := by rw [hG]; exact grownCap_ge W _ _ _
  have hGm : G ≤ maxLen := by rw [hG]; exact grownCap_le_maxLen W (n + 1) c 48 (by simp only [maxLen]; omega)
  have hRl : ROW.size = G * 2 := by
    rw [hROW, Array.size_append, Array.size_append, size_zeroCells, size_zeroCells, List.size_toArray, cellsN_length, show (Value.agg #[.int .i64 0, .int .i64 0]).cells.size = 2 from rfl]
    omega
  have hRf : ∀ j, j < k * 2 → ROW.toList[j]? = some (rc lv tk j) := fun j hj => by
    rw [hROW, Array.toList_append, Array.toList_append, List.append_assoc, List.getElem?_append_left (by simp [cellsN_length]; exact hj)]
    simpa using cellsN_get hj
  clear hG hROW hold hi hz0 hz1 hz2 hcn hkk
  have hGk : ¬ G = k := by omega
  have hGk1 : ¬ G = k + 1 := by omega
  have hsz : (Try.prog.info? 48).map (·.size) = some 2 := by kernel_rfl
  obtain ⟨W1, hW1⟩ : ∃ W1, W1 = W.drew.alloc (.cells ROW 48) := ⟨_, rfl⟩
  rw [← hW1] at hrz
  have G1 : Hid (W1.heap[W.heap.size]? = some (.cells ROW.toList.toArray 48 (0, 0))) := by rw [hW1, Array.toArray_toList]; exact heap_alloc_new W.drew _
  have B1 : Hid (W.grownBy W1 none) := by rw [hW1]; exact grown_of_below (kept_alloc (kept_drew (Below.refl _ _)) _) none
  clear hW1
  have hgl : Hid (g < W.heap.size) := hrow.1
  have hvl : Hid (vb < W.heap.size) := (Array.getElem?_eq_some_iff.1 H.out.hv).1
  have hv1 : Hid (W1.heap[vb]? = some (.cells #[.int .i64 l, .int .i64 t] 48 (0, 0))) := (B1.out.block vb hvl.out (by simp)).trans H.out.hv
  have hcp : ∀ ty dc, (Builtin.copy_ #[26, 26] ty #[.slice (some ⟨W.heap.size, k * 2, none⟩) (n + 1 - k) dc, .slice (some ⟨vb, 0, none⟩) 1 1]).run Try.prog W1 = .ok (goInt 1) (W1.setRow W.heap.size (splice ROW.toList (k * 2) [.int .i64 l, .int .i64 t]).toArray) := fun ty dc =>
    one_copy G1.out hv1.out hk (by simp; omega)
  obtain ⟨W2, hW2⟩ : ∃ W2, W2 = W1.setRow W.heap.size (splice ROW.toList (k * 2) [.int .i64 l, .int .i64 t]).toArray := ⟨_, rfl⟩
  rw [← hW2] at hcp
  have G2 : Hid (W2.heap[W.heap.size]? = some (.cells (splice ROW.toList (k * 2) [.int .i64 l, .int .i64 t]).toArray 48 (0, 0))) := by rw [hW2]; exact setRow_heap W1 _ _ _ _ _ G1.out
  have B2 : Hid (W.grownBy W2 none) := by
    rw [hW2]
    have h1 := B1.out
    have h2 := grown_setRow W1 W.heap.size (splice ROW.toList (k * 2) [.int .i64 l, .int .i64 t]).toArray
    exact ⟨h2.os.trans h1.os, h2.tape.trans h1.tape, h2.output.trans h1.output, Nat.le_trans h1.size h2.size, fun i hi _ => (h2.block i (Nat.lt_of_lt_of_le hi h1.size) (by simp; omega)).trans (h1.block i hi (by simp))⟩
  clear hW2
  have hlen : Hid ((splice ROW.toList (k * 2) [.int .i64 l, .int .i64 t]).length = G * 2) := by show _ = _; rw [length_splice _ _ _ (by simp; omega)]; simpa using hRl
  have hsrc1 : Hid (∀ j u, (cellsN (fun i => rc lv tk (k * 2 + i)) ((n - k) * 2))[j]? = some u → W2.drew.cell? ((⟨g, k * 2, none⟩ : Addr).add j) = some u) := fun j u hj => by
    obtain ⟨h1, rfl⟩ := cellsN_at hj
    rw [addr_lit]
    have h2 : W2.drew.heap[g]? = some (.cells cur 48 (0, 0)) := (B2.out.block g hgl.out (by simp)).trans H.out.hg
    rw [cell_of_row W2.drew g (k * 2 + j) cur _ (0, 0) h2]
    have := H.out.hcur (k * 2 + j) (by omega)
    simpa using this
  have hgd : Hid (W2.drew.heap[W.heap.size]? = some (.cells (splice ROW.toList (k * 2) [.int .i64 l, .int .i64 t]).toArray 48 (0, 0))) := G2.out
  have ho1 := Lib.hid (rc_one lv tk (k * 2) ((n - k) * 2))
  have hL1 : Hid ((cellsN (fun i => rc lv tk (k * 2 + i)) ((n - k) * 2)).length = (n - k) * 2) := cellsN_length _ _
  have hm1 : Hid (n - k = Nat.min (n - k) (n + 1 - (k + 1))) := by show _ = _; simp only [Nat.min_def]; split <;> omega
  have hfit1 : Hid ((k + 1) * 2 + (cellsN (fun i => rc lv tk (k * 2 + i)) ((n - k) * 2)).length ≤ (splice ROW.toList (k * 2) [.int .i64 l, .int .i64 t]).toArray.size) := by show _ ≤ _; rw [cellsN_length, List.size_toArray, hlen.out]; omega
  obtain ⟨cs1, hE1⟩ : ∃ cs1, Hid (cs1 = cellsN (fun i => rc lv tk (k * 2 + i)) ((n - k) * 2)) := ⟨_, rfl⟩
  rw [← hE1.out] at hsrc1 hL1 ho1 hfit1
  have hRl := Lib.hid hRl
  have hRf := Lib.hid hRf
  have hgl := hgl
  clear hrow
  generalize hN : W.heap.size = N at *
  have hN := Lib.hid hN
  go_enter Try.func65, Try.ntmps65
  go_wp2_with (at_builtin; go_loud (refine Lib.wpList_append_run _ rfl _ _ _ _ rfl _ _ rfl rfl _ _ (hrz _) ?_))
  go_region_law (refine step_copy_wide (dLen := n + 1 - (k + 1)) (dCap := G - (k + 1)) (sLen := n - k) (sCap := c - k) rfl (.tmp 50) (.tmp 53) 26 26 rfl 48 N ((k + 1) * 2) ⟨g, k * 2, none⟩ (splice ROW.toList (k * 2) [.int .i64 l, .int .i64 t]).toArray 48 2 (n - k) cs1 (by simp [Act.eval, Act.put]) (by simp [Act.eval, Act.put]) Try.underlying26 hsz hgd.out hm1.out hL1.out hsrc1.out hfit1.out ho1.out ?_; intro w3 hg3 hgr3)
  have hgr : Hid (W.grownBy w3 (some g)) := by
    have h1 := B2.out
    have h2 := hgr3.out
    have hN' := hN.out
    exact ⟨h2.os.trans h1.os, h2.tape.trans h1.tape, h2.output.trans h1.output, Nat.le_trans h1.size h2.size, fun i hi _ => (h2.block i (Nat.lt_of_lt_of_le hi h1.size) (by simp; omega)).trans (h1.block i hi (by simp))⟩
  go_wp2
  go_ret
  refine ⟨_, rfl, hgr.out, ?_⟩
  have hRl := hRl.out
  have hRf := hRf.out
  have hlen := hlen.out
  have hl1 := hL1.out
  have hRL : ROW.toList.length = G * 2 := by simpa using hRl
  have hlen2 : (splice (splice ROW.toList (k * 2) [.int .i64 l, .int .i64 t]) ((k + 1) * 2) cs1).length = G * 2 := by
    rw [length_splice _ _ _ (by rw [hlen]; omega), hlen]
  have hg3 := hg3.out
  refine ⟨cellsN_length _ _, .inr ⟨N, G, _, rfl, by have := hgl.out; omega, hg3, hGn, hGm, by simpa using hlen2, ?_⟩⟩
  have hsp : ∀ j, (splice (splice ROW.toList (k * 2) [.int .i64 l, .int .i64 t]) ((k + 1) * 2) cs1)[j]? = if (k + 1) * 2 ≤ j ∧ j < (k + 1) * 2 + cs1.length then cs1[j - (k + 1) * 2]? else if k * 2 ≤ j ∧ j < k * 2 + 2 then ([.int .i64 l, .int .i64 t] : List Value)[j - k * 2]? else ROW.toList[j]? := fun j => by
    rw [splice_at _ _ _ _ (by rw [hlen]; omega), splice_at _ _ _ _ (by simp; omega)]
    rfl
  refine ins_take (by omega) (fun j hj => ?_) ?_ ?_ (fun j hj => ?_)
  · rw [hsp, if_neg (by omega), if_neg (by omega)]; exact hRf j hj
  · rw [hsp, if_neg (by omega), if_pos (by omega), show k * 2 - k * 2 = 0 by omega]; rfl
  · rw [hsp, if_neg (by omega), if_pos (by omega), show k * 2 + 1 - k * 2 = 1 by omega]; rfl
  · rw [hsp, if_pos (by omega), show (k + 1) * 2 + j - (k + 1) * 2 = j by omega, hE1.out, cellsN_get hj]

theorem f_Insert (g n c vb k : Nat) (cur : Array Value) (lv tk : Nat → Int) (l t : Int) (W : World) (h : InsIn W g n c vb cur lv tk l t) (hk : k ≤ n) (hn : n ≤ 24) :
    Calls Try.prog 65 #[.slice (some ⟨g, 0, none⟩) n c, .int .i64 k, .slice (some ⟨vb, 0, none⟩) 1 1] W fun e W' => ∃ v, e = .returned v ∧ W.grownBy W' (some g) ∧ W'.ownsRow g 48 2 v (n + 1) (cellsN (rc (insF k l lv) (insF k t tk)) ((n + 1) * 2)) := by
  by_cases e : k = n
  · subst e; exact f_Insert_end g k c vb cur lv tk l t W h hn
  · by_cases hr : n + 1 ≤ c
    · exact f_Insert_room g n c vb k cur lv tk l t W h (by omega) hn hr
    · exact f_Insert_grow g n c vb k cur lv tk l t W h (by omega) hn (by omega)

end Go.Proofs.Ytcbceodlakbpdaa
