/- What is drawn for the reading of a fare: a text, at times spoilt. -/
import Derived.Test.YtjmklkhdemolmaaGreatDoorDrawF
import Derived.Test.YtjmklkhdemolmaaGreatDoorMrgB
import Derived.Test.YtjmklkhdemolmaaGreatDoorFareT
import Derived.Laws.IdiomStrings
import Derived.Lib.SlBytesRow
import Derived.ArgAppend
import Derived.Deep.RegionLaw
namespace Go.Proofs.YtjmklkhdemolmaaGreatDoor
open Go.RowKit Go.Deep
set_option linter.unusedVariables false
set_option maxRecDepth 100000

/-- Block k holds n bytes. -/
def ByC (w : World) (k n : Nat) : Prop := ∀ i, i < n → ∃ y : Int, w.cell? ⟨k, i, none⟩ = some (.int .u8 y) ∧ 0 ≤ y ∧ y ≤ 255
/-- None of its first n cells is frozen. -/
def FrC (w : World) (k n : Nat) : Prop := ∀ i, i < n → w.frozen? ⟨k, i, none⟩ = false
def byteOf (v : Option Value) : UInt8 := match v with | some (.int _ y) => UInt8.ofNat y.toNat | _ => 0
theorem by_str (w : World) (k n : Nat) (h : ByC w k n) : ∃ s : ByteArray, s.size = n ∧ ∀ cap, (convert 22 9 (.slice (some ⟨k, 0, none⟩) n cap)).run Tryz.prog w = .ok (.string s) w := by
  obtain ⟨s, hs⟩ : ∃ s : ByteArray, s = ⟨((List.range n).map fun i => byteOf (w.cell? ⟨k, i, none⟩)).toArray⟩ := ⟨_, rfl⟩
  have hsz : s.size = n := by rw [hs]; show (List.toArray _).size = n; simp
  refine ⟨s, hsz, fun cap => ?_⟩
  have := Lib.run_convert_whole (P := Tryz.prog) w 22 5 9 Tryz.underlying22 Tryz.underlying5 Tryz.underlying9 k 0 s (fun i hi => by
    have hi' : i < n := by omega
    obtain ⟨y, h1, h2, h3⟩ := h i hi'
    rw [Nat.zero_add, h1]
    have e1 : s[i] = byteOf (w.cell? ⟨k, i, none⟩) := by subst hs; show (List.toArray _)[i] = _; simp
    rw [e1, h1]
    simp only [byteOf]
    congr 2
    simp
    omega) cap
  rw [hsz] at this
  exact this
theorem ByC.grown {w w' : World} {k n : Nat} {row : Option Nat} (h : ByC w k n) (hg : w.grownBy w' row) (hk : k < w.heap.size) (hr : row ≠ some k) : ByC w' k n := fun i hi => by
  obtain ⟨y, q1, q2⟩ := h i hi
  exact ⟨y, (World.cell?_of_block (a := ⟨k, i, none⟩) (hg.block k hk (fun e => hr e.symm))).trans q1, q2⟩
theorem FrC.grown {w w' : World} {k n : Nat} {row : Option Nat} (h : FrC w k n) (hg : w.grownBy w' row) (hk : k < w.heap.size) (hr : row ≠ some k) : FrC w' k n := fun i hi =>
  (World.frozen?_of_block (a := ⟨k, i, none⟩) (hg.block k hk (fun e => hr e.symm))).trans (h i hi)
theorem ByC.store {w : World} {k n : Nat} (h : ByC w k n) (j : Nat) {x : Int} (hx : 0 ≤ x ∧ x ≤ 255) : ByC (w.setCell ⟨k, j, none⟩ (.int .u8 x)) k n := fun i hi => by
  obtain ⟨y, q1, q2⟩ := h i hi
  by_cases e : j = i
  · subst e
    exact ⟨x, World.cell?_setCell_same _ _ _ q1, hx⟩
  · exact ⟨y, (World.cell?_setCell_other _ _ _ _ (by simp)).trans q1, q2⟩
theorem ByC.cells {w : World} {k n : Nat} (h : ByC w k n) : ∀ (vs : List Value) (o : Nat), (∀ v ∈ vs, ∃ x : Int, v = .int .u8 x ∧ 0 ≤ x ∧ x ≤ 255) → ByC (w.setCells k o vs) k n
  | [], o, _ => h
  | v :: r, o, hv => by
    obtain ⟨x, rfl, hx⟩ := hv v (by simp)
    exact ByC.cells (h.store o hx) r (o + 1) (fun v hv' => hv v (List.mem_cons_of_mem _ hv'))
theorem grown_cells {W w : World} {g k : Nat} (h : W.grownBy w (some g)) (hk : W.heap.size ≤ k) : ∀ (vs : List Value) (o : Nat), W.grownBy (w.setCells k o vs) (some g)
  | [], o => h
  | v :: r, o => grown_cells (w := w.setCell ⟨k, o, none⟩ v) (grown_store h hk o v) hk r (o + 1)
theorem ByC.le {w : World} {k n m : Nat} (h : ByC w k n) (hm : m ≤ n) : ByC w k m := fun i hi => h i (by omega)
theorem ByC.new (w : World) (t : TypeId) (s : ByteArray) (cap : Nat) (hc : s.size ≤ cap) : ByC (w.drew.alloc (.cells (bytesRow s cap) t ((bytesRow s cap).size, (bytesRow s cap).size + 1))) w.heap.size cap ∧ FrC (w.drew.alloc (.cells (bytesRow s cap) t ((bytesRow s cap).size, (bytesRow s cap).size + 1))) w.heap.size cap := by
  have hh : (w.drew.alloc (.cells (bytesRow s cap) t ((bytesRow s cap).size, (bytesRow s cap).size + 1))).heap[w.heap.size]? = some (.cells (bytesRow s cap) t ((bytesRow s cap).size, (bytesRow s cap).size + 1)) := heap_alloc_new w.drew _
  have hsz : (bytesRow s cap).size = cap := by
    unfold bytesRow
    have : s.data.size = s.size := rfl
    simp
    omega
  refine ⟨fun i hi => ?_, fun i hi => ?_⟩
  · unfold World.cell?
    rw [hh]
    by_cases h1 : i < s.data.size
    · refine ⟨(s.data[i].toNat : Int), ?_, by omega, ?_⟩
      · simpa using bytesRow_at s cap i h1
      · have := s.data[i].toNat_lt; omega
    · refine ⟨0, ?_, by omega, by omega⟩
      have h2 : (bytesRow s cap)[i]? = some (.int .u8 0) := by
        unfold bytesRow
        have h3 : s.data.size = s.size := rfl
        rw [Array.getElem?_append_right (by simp; omega)]
        simp
        rw [Array.getElem?_replicate, if_pos (by omega)]
      simpa using h2
  · unfold World.frozen?
    rw [hh]
    simp only [hsz]
    simp
    omega
/-- What an append that grows has made. -/
theorem own_by {w : World} {B e n : Nat} {v : Value} {xs : List Value} (h : w.ownsRow B e 1 v n xs) (hn : 0 < n) (hx : ∀ u ∈ xs, ∃ x : Int, u = .int .u8 x ∧ 0 ≤ x ∧ x ≤ 255) : ∃ k cap, v = .slice (some ⟨k, 0, none⟩) n cap ∧ ByC w k n := by
  obtain ⟨hl, h⟩ := h
  rcases h with ⟨-, h0⟩ | ⟨k, cap, cur, rfl, hB, hh, hc1, hc2, hc3, htk⟩
  · omega
  · refine ⟨k, cap, rfl, fun i hi => ?_⟩
    have h1 : xs[i]? = cur[i]? := by
      rw [← htk, List.getElem?_take_of_lt (by omega)]; simp
    have h2 : i < xs.length := by omega
    obtain ⟨x, h3, h4⟩ := hx xs[i] (List.getElem_mem h2)
    refine ⟨x, ?_, h4⟩
    unfold World.cell?
    rw [hh]
    simp only [Option.isSome_none, Bool.false_eq_true, if_false]
    rw [← h1, List.getElem?_eq_getElem h2, h3]

theorem grown_none {w w' : World} {row : Option Nat} (h : w.grownBy w' none) : w.grownBy w' row := ⟨h.os, h.tape, h.output, h.size, fun b hb _ => h.block b hb (by simp)⟩
/-- The cells of a stretch of bytes, as a list. -/
theorem by_list (w : World) (k o n : Nat) (h : ∀ i, i < n → ∃ y : Int, w.cell? ⟨k, o + i, none⟩ = some (.int .u8 y) ∧ 0 ≤ y ∧ y ≤ 255) : ∃ L : List Value, L.length = n ∧ (∀ j u, L[j]? = some u → w.cell? ⟨k, o + j, none⟩ = some u) ∧ (∀ u ∈ L, ∃ x : Int, u = .int .u8 x ∧ 0 ≤ x ∧ x ≤ 255) := by
  refine ⟨(List.range n).map fun i => (w.cell? ⟨k, o + i, none⟩).getD undef, by simp, fun j u hu => ?_, fun u hu => ?_⟩
  · have hj : j < n := by simpa using (List.getElem?_eq_some_iff.1 hu).1
    obtain ⟨y, q1, -⟩ := h j hj
    simp [hj, q1] at hu
    rw [q1, hu]
  · obtain ⟨i, hi', rfl⟩ := List.mem_map.1 hu
    obtain ⟨y, q1, q2⟩ := h i (by simpa using hi')
    exact ⟨y, by rw [q1]; rfl, q2⟩
/-- The world behind '[]byte(t)'. -/
theorem spoil_new (g : Nat) (b : Int) (t : ByteArray) (W : World) (h : SrcAt W g b) (ht : t.size ≤ 100000) : ∃ (cap : Nat) (w1 : World), t.size ≤ cap ∧ cap ≤ 9223372036854775807 ∧ (convert 9 22 (.string t)).run Tryz.prog W = .ok (.slice (some ⟨W.heap.size, 0, none⟩) t.size cap) w1 ∧
    w1.heap.size = W.heap.size + 1 ∧ W.grownBy w1 (some g) ∧ SrcAt w1 g b ∧ ByC w1 W.heap.size cap ∧ FrC w1 W.heap.size cap := by
  have hc := grownCap_ge W t.size 0 5
  have hm := grownCap_le_maxLen W t.size 0 5 (by unfold maxLen; omega)
  have hB := ByC.new W 5 t _ hc
  have KA := kept_alloc (kept_drew (Below.refl W.heap.size W)) (.cells (bytesRow t (grownCap W t.size 0 5)) 5 ((bytesRow t (grownCap W t.size 0 5)).size, (bytesRow t (grownCap W t.size 0 5)).size + 1))
  refine ⟨_, _, hc, by simpa [maxLen] using hm, run_bytes_of_string W 9 22 5 t Tryz.underlying9 Tryz.underlying22 Tryz.underlying5, by simp, grown_of_below KA _, h.kept KA, hB.1, hB.2⟩

set_option maxHeartbeats 1600000 in
theorem s_Spoil (g : Nat) (b : Int) (t : ByteArray) (W : World) (h : SrcAt W g b) (hb : b ≤ 900000000) (ht : t.size ≤ 1000) : Calls Tryz.prog 29 #[.pointer (some ⟨g, 0, none⟩), .string t] W fun e w' => ∃ x : ByteArray, e = .returned (.string x) ∧ x.size ≤ 1048576 ∧ W.grownBy w' (some g) := by
  have hgl := h.1
  obtain ⟨i0, hi, hz0, hz1, hz2⟩ := info_parts infoByte
  obtain ⟨cap, w1, hcap, hcapm, hcv, hsz1, G1, hs1, hB1, hF1⟩ := spoil_new g b t W h (by omega)
  generalize ht' : t.size = n at *
  clear h
  by_cases hn0 : n = 0
  · subst hn0
    have HA := Lib.hid (src_text g w1.heap.size 4 4 10 b _ (hs1.kept (kept_alloc (Below.refl _ _) _)) (by omega) (by omega) (by have := hs1.1; omega) (lit_strs w1 9 [⟨#[]⟩, ⟨#[32]⟩, ⟨#[120]⟩, ⟨#[10]⟩] (by decide)))
    clear hsz1 hi hz0 hz1 hz2 hB1 hF1
    go_enter Tryz.func29, Tryz.ntmps29
    go_wp2_with (go_at_call 41; refine HA.out.mono ?_; rintro e w2 ⟨x, rfl, hx, hg2, hs2⟩)
    go_ret
    exact ⟨x, rfl, by omega, grown_trans (grown_alloc G1 _) hg2⟩
  · have HP := Lib.hid (src_pick g b n w1 hs1 (by omega) (by omega))
    have HP2 := Lib.hid (fun w h => src_pick g (b + 2) 4 w h (by omega) (by omega))
    have hn1 : (n == 0) = false := by simpa using hn0
    clear hs1
    go_enter Tryz.func29, Tryz.ntmps29
    go_upto_region 6 with (first
      | (go_at_call 15; have _two := tok1; refine (HP2.out _ hs2).mono ?_; rintro e w3 ⟨c, rfl, hc, hg3, hs3⟩)
      | (go_at_call 15; refine HP.out.mono ?_; rintro e w2 ⟨j, rfl, hj, hg2, hs2⟩; have tok1 : True := trivial))
    have G3 := grown_trans (grown_trans G1 hg2) hg3
    have z2 := hg2.size
    have z3 := hg3.size
    have hB3 := (hB1.grown hg2 (by omega) (by simp; omega)).grown hg3 (by omega) (by simp; omega)
    have hF3 := (hF1.grown hg2 (by omega) (by simp; omega)).grown hg3 (by omega) (by simp; omega)
    obtain ⟨at', rfl⟩ : ∃ q : Nat, j = q := ⟨j.toNat, by omega⟩
    have hk3 : W.heap.size < w3.heap.size := by omega
    have hatn : at' < n := by omega
    have hng : g ≠ W.heap.size := by omega
    clear HP HP2 hB1 hF1 hg2 hg3 hs2 hcv tok1 z2 z3 G1 hsz1
    rcases (show c = 0 ∨ c = 1 ∨ c = 2 ∨ c = 3 by omega) with rfl | rfl | rfl | rfl
    · have HN := Lib.hid (src_next g (b + 2 + 2) w3 hs3 (by omega))
      have HB : Hid (∀ w' (x : Int), 0 ≤ x ∧ x ≤ 255 → w3.grownBy w' (some g) → ∃ (y : Int) (s : ByteArray), w'.cell? ⟨W.heap.size, at', none⟩ = some (.int .u8 y) ∧ w'.frozen? ⟨W.heap.size, at', none⟩ = false ∧ s.size = n ∧
          (convert 22 9 (.slice (some ⟨W.heap.size, 0, none⟩) n cap)).run Tryz.prog (w'.setCell ⟨W.heap.size, at', none⟩ (.int .u8 x)) = .ok (.string s) (w'.setCell ⟨W.heap.size, at', none⟩ (.int .u8 x)) ∧ W.grownBy (w'.setCell ⟨W.heap.size, at', none⟩ (.int .u8 x)) (some g)) := fun w' x hx hg => by
        have hB4 := hB3.grown hg hk3 (by simpa using hng)
        obtain ⟨y, q1, -⟩ := hB4 at' (by omega)
        obtain ⟨s, r1, r2⟩ := by_str (w'.setCell ⟨W.heap.size, at', none⟩ (.int .u8 x)) W.heap.size n ((hB4.le hcap).store at' hx)
        exact ⟨y, s, q1, hF3.grown hg hk3 (by simpa using hng) at' (by omega), r1, r2 cap, grown_store (grown_trans G3 hg) (Nat.le_refl _) _ _⟩
      have h1 : (at' : Int) < (n : Int) := by omega
      go_wp2_with (go_at_call 35; go_loud (refine HN.out.mono ?_; rintro e w4 ⟨x, rfl, hx, hg4, hs4⟩; obtain ⟨y, s', q1, q2, q3, q4, q5⟩ := HB.out _ x hx hg4))
      go_ret
      exact ⟨s', rfl, by omega, q5⟩
    · obtain ⟨L, hL, hLc, hLx⟩ := by_list w3 W.heap.size (at' + 1) (n - (at' + 1)) (fun i hi => hB3 _ (by omega))
      obtain ⟨A, hA, hnews⟩ : ∃ A : Addr, (if cap = at' + 1 then some (⟨W.heap.size, 0, none⟩ : Addr) else some ⟨W.heap.size, at' + 1, none⟩) = some A ∧ Hid (∀ j u, L[j]? = some u → w3.drew.cell? (A.add j) = some u) := by
        by_cases h : cap = at' + 1
        · refine ⟨⟨W.heap.size, 0, none⟩, by simp [h], fun j u hu => ?_⟩
          have h0 : L.length = 0 := by omega
          rw [List.length_eq_zero_iff.1 h0] at hu
          simp at hu
        · refine ⟨⟨W.heap.size, at' + 1, none⟩, by simp [h], fun j u hu => ?_⟩
          rw [Addr.add_lit]
          exact hLc j u hu
      have s1 : Hid (L.length = (n - (at' + 1)) * 1) := by show _ = _; omega
      have s2 : Hid (∀ u ∈ L, u.oneCell' = true) := by
        intro u hu
        obtain ⟨x, rfl, _⟩ := hLx u hu
        rfl
      have s3 : Hid (∀ j, j < L.length → (w3.drew.cell? ⟨W.heap.size, 0 + at' * 1 + j, none⟩).isSome = true ∧ w3.drew.frozen? ⟨W.heap.size, 0 + at' * 1 + j, none⟩ = false) := by
        intro j hj
        rw [hL] at hj
        rw [Nat.mul_one, Nat.zero_add]
        obtain ⟨y, q1, -⟩ := hB3 (at' + j) (by omega)
        exact ⟨by show (w3.cell? _).isSome = true; rw [q1]; rfl, hF3 (at' + j) (by omega)⟩
      have hB4 : ByC (w3.drew.setCells W.heap.size (0 + at' * 1) L) W.heap.size cap := ByC.cells (w := w3.drew) (k := W.heap.size) (n := cap) hB3 L _ hLx
      obtain ⟨s', r1, r2⟩ := by_str _ W.heap.size (at' + (n - (at' + 1))) (hB4.le (by omega))
      have r3 := r2 cap
      have G4 : W.grownBy (w3.drew.setCells W.heap.size (0 + at' * 1) L) (some g) := grown_cells (grown_drew G3) (Nat.le_refl _) L _
      have hic : at' ≤ cap := by omega
      have hwr : IntKind.i64.wrap ((at' : Int) + 1) = (at' : Int) + 1 := by rw [IntKind.wrap_i64]; omega
      have hp0 : (0 : Int) ≤ (at' : Int) + 1 := by omega
      have hp1 : (at' : Int) + 1 ≤ (n : Int) := by omega
      have hp2 : ((at' : Int) + 1).toNat = at' + 1 := by omega
      rw [show 0 + at' * 1 = at' by omega] at r3 G4
      clear hB3 hF3 hLc hLx r2 hB4 hL
      go_upto_region 9 with (fail)
      go_region_law (refine step_append_room rfl (.tmp 33) (.tmp 37) 22 rfl 5 i0 1 Tryz.underlying22 hi hz1 W.heap.size 0 at' cap (by simp [Act.eval, Act.put]) A (n - (at' + 1)) (cap - (at' + 1)) L (by simp [Act.eval, Act.put]) s1.out hnews.out s2.out (by omega) s3.out ?_)
      go_wp2
      go_ret
      exact ⟨s', rfl, by omega, G4⟩
    · have HA := Lib.hid (src_among g w3.heap.size 5 5 (b + 2 + 2) 10 120 _ (hs3.kept (kept_alloc (Below.refl _ _) _)) (by omega) (by omega) (by have := hs3.1; omega) (lit_cells w3 2 [32, 10, 48, 44, 120] (by decide)))
      have HKB : Hid (∀ (o : Obj) (w4 : World) (x : Int), 10 ≤ x ∧ x ≤ 120 → (w3.alloc o).grownBy w4 (some g) → ∃ w5, w5 = w4.alloc (.cells #[.int .u8 x] 5) ∧ W.grownBy w5 (some g) ∧ w4.heap.size < w5.heap.size ∧ w5.cell? ⟨w4.heap.size, 0, none⟩ = some (.int .u8 x) ∧ (∀ j, j < cap → (w5.cell? ⟨W.heap.size, j, none⟩).isSome = true ∧ w5.frozen? ⟨W.heap.size, j, none⟩ = false) ∧
          (n + 1 ≤ cap → ∃ s : ByteArray, s.size = n + 1 ∧ (convert 22 9 (.slice (some ⟨W.heap.size, 0, none⟩) (n + 1) cap)).run Tryz.prog (w5.setCells W.heap.size n [.int .u8 x]) = .ok (.string s) (w5.setCells W.heap.size n [.int .u8 x]) ∧ W.grownBy (w5.setCells W.heap.size n [.int .u8 x]) (some g)) ∧
          ∃ L : List Value, L.length = n * 1 ∧ (∀ j u, L[j]? = some u → w5.cell? ⟨W.heap.size, 0 + j, none⟩ = some u) ∧ ∀ v' w', w'.ownsRow w5.heap.size 5 1 v' (n + 1) (L ++ [.int .u8 x]) → w5.grownBy w' none → ∃ (k cp : Nat) (s : ByteArray), v' = .slice (some ⟨k, 0, none⟩) (n + 1) cp ∧ s.size = n + 1 ∧ (convert 22 9 v').run Tryz.prog w' = .ok (.string s) w' ∧ W.grownBy w' (some g)) := fun o w4 x hx hg => by
        have hg' := grown_alloc (grown_trans (grown_alloc (grown_refl w3 (some g)) o) hg) (.cells #[.int .u8 x] 5)
        have hB5 := hB3.grown hg' hk3 (by simpa using hng)
        have hF5 := hF3.grown hg' hk3 (by simpa using hng)
        have G5 := grown_trans G3 hg'
        have c0 : (w4.alloc (.cells #[.int .u8 x] 5)).cell? ⟨w4.heap.size, 0, none⟩ = some (.int .u8 x) := boxed_at rfl rfl
        have hz5 : w4.heap.size < (w4.alloc (.cells #[.int .u8 x] 5)).heap.size := by simp
        refine ⟨_, rfl, G5, hz5, c0, fun j hj => ?_, fun hn => ?_, ?_⟩
        · obtain ⟨y, q1, -⟩ := hB5 j hj
          exact ⟨by rw [q1]; rfl, hF5 j hj⟩
        · have hx8 : ∀ v ∈ [Value.int .u8 x], ∃ y : Int, v = .int .u8 y ∧ 0 ≤ y ∧ y ≤ 255 := fun v hv => ⟨x, by simpa using hv, by omega⟩
          obtain ⟨s, r1, r2⟩ := by_str _ W.heap.size (n + 1) ((hB5.cells [.int .u8 x] n hx8).le hn)
          exact ⟨s, r1, r2 cap, grown_cells G5 (Nat.le_refl _) _ _⟩
        · obtain ⟨L, hL, hLc, hLx⟩ := by_list _ W.heap.size 0 n (fun i hi => by rw [Nat.zero_add]; exact hB5 i (by omega))
          refine ⟨L, by omega, hLc, fun v' w' ho hg2 => ?_⟩
          obtain ⟨k, cp, rfl, hB6⟩ := own_by ho (by omega) (fun u hu => by
            rcases List.mem_append.1 hu with hu | hu
            · exact hLx u hu
            · exact ⟨x, by simpa using hu, by omega⟩)
          obtain ⟨s, r1, r2⟩ := by_str w' k (n + 1) hB6
          exact ⟨k, cp, s, rfl, r1, r2 cp, grown_trans G5 (grown_none hg2)⟩
      clear hB3 hF3
      go_upto_region 11 with (fail)
      go_wp2_with (first
        | (go_at_call 16; go_loud (refine HA.out.mono ?_; rintro e w4 ⟨x, rfl, hx, hg4, hs4⟩; obtain ⟨w5, e5, G5, hz5, c0, HX, HR, L, hL, hLc, HGR⟩ := HKB.out _ _ x hx hg4))
        | (at_builtin; refine wpList_append_arg _ rfl _ _ 22 rfl 5 i0 _ 1 1 Tryz.underlying22 hi hz0 hz1 hz2 rfl (by decide) W.heap.size 0 n cap L rfl hL (by rw [← e5]; exact hLc) ⟨w4.heap.size, 0, none⟩ 1 1 [.int .u8 x] rfl rfl ?c1 ?c2 ?spare (by simp only [maxLen]; omega) (by omega) ?room ?grow))
      case c1 =>
        intro j u hu
        have hj : j = 0 := by
          have := (List.getElem?_eq_some_iff.1 hu).1
          simpa using this
        subst hj
        simp at hu
        subst hu
        rw [← e5]
        exact c0
      case c2 =>
        intro u hu
        simp at hu
        subst hu
        rfl
      case spare =>
        intro h1 j hj
        rw [← e5]
        have hj : j = 0 := by simpa using hj
        subst hj
        simpa using HX n (by omega)
      case room =>
        intro hn1
        obtain ⟨s', r1, r2, r3⟩ := HR hn1
        subst e5
        try simp only [Nat.zero_add, Nat.mul_one]
        go_wp2
        go_ret
        exact ⟨s', rfl, by omega, r3⟩
      case grow =>
        intro hn1 v' w' ho hg2
        have hz6 : w5.heap.size = w4.heap.size + 1 := by rw [e5]; simp
        rw [← hz6] at ho
        rw [← e5] at hg2
        obtain ⟨k', cp', s', rfl, r1, r2, r3⟩ := HGR v' w' ho hg2
        go_wp2
        go_ret
        exact ⟨s', rfl, by omega, r3⟩
    · obtain ⟨s', r1, r2⟩ := by_str w3 W.heap.size at' (hB3.le (by omega))
      have r3 := r2 cap
      have hic : at' ≤ cap := by omega
      clear hB3 hF3 r2 hi hz0 hz1 hz2
      go_wp2
      go_ret
      exact ⟨s', rfl, by omega, G3⟩

set_option maxHeartbeats 1600000 in
theorem s_DrawReadFare (v : Value) (n : Nat) (W : World) (h : ByS W v n) (hn : n ≤ 1048576) : Calls Tryz.prog 10 #[v] W fun e w' => ∃ x : ByteArray, e = .returned (.string x) ∧ x.size ≤ 1048576 ∧ Below W.heap.size W w' := by
  have HF := Lib.hid (src_from v n _ h hn)
  obtain ⟨-, ao, cap, rfl, -⟩ := h
  go_enter Tryz.func10, Tryz.ntmps10
  go_upto_region 2 with (go_at_call 13; refine HF.out.mono ?_; rintro e w1 ⟨rfl, hb1, hs1, hzz⟩)
  have HD := Lib.hid (d_FareOneB W.heap.size 0 ⟨#[100, 97, 121]⟩ w1 hs1 (by omega))
  have hgw : W.heap.size < w1.heap.size := hs1.1
  clear hs1 HF hzz
  go_upto_region 3 with (go_at_call 26; refine HD.out.mono ?_; rintro e w2 ⟨x, y, u, rfl, ⟨hx, hy, hu⟩, hg2, hs2⟩)
  have hz2 := hg2.size
  have K2 := kept_alloc (kept_grown hb1 hg2 (fun r e => by have e2 := Option.some.inj e; omega)) (.cells #[.string ⟨#[100, 97, 121]⟩, .int .i64 x, .int .i64 y, .int .i64 u] 32)
  have hs3 := hs2.kept (kept_alloc (Below.refl _ _) (.cells #[.string ⟨#[100, 97, 121]⟩, .int .i64 x, .int .i64 y, .int .i64 u] 32))
  have HT := Lib.hid (s_FareIn ⟨#[100, 97, 121]⟩ x y u w2.heap.size (w2.alloc (.cells #[.string ⟨#[100, 97, 121]⟩, .int .i64 x, .int .i64 y, .int .i64 u] 32)) (by decide) hx hy hu (boxed_at rfl rfl) (boxed_at rfl rfl) (boxed_at rfl rfl) (boxed_at rfl rfl))
  have hl := lsS_size (n := 3) (z := f3 x y u) (fun i hi => by have := f3_bd hx hy hu i hi; omega) 3 (by omega)
  have hsz : ((⟨#[100, 97, 121]⟩ : ByteArray) ++ ⟨#[32]⟩ ++ lsS (f3 x y u) 3).size ≤ 1000 := by
    rw [ByteArray.size_append, ByteArray.size_append]
    have q1 : (⟨#[100, 97, 121]⟩ : ByteArray).size = 3 := rfl
    have q2 : (⟨#[32]⟩ : ByteArray).size = 1 := rfl
    omega
  generalize ((⟨#[100, 97, 121]⟩ : ByteArray) ++ ⟨#[32]⟩ ++ lsS (f3 x y u) 3) = T at *
  generalize w2.alloc (.cells #[.string ⟨#[100, 97, 121]⟩, .int .i64 x, .int .i64 y, .int .i64 u] 32) = w3 at *
  clear HD hl hx hy hu hb1 hg2 hs2
  go_upto_region 4 with (go_at_call 27; refine HT.out.mono ?_; rintro e w4 ⟨rfl, hb4⟩)
  have K4 := kept_trans K2 hb4
  have hs4 := hs3.kept hb4
  have HO := Lib.hid (src_one W.heap.size (0 + 6) 2 w4 hs4 (by omega) (by omega))
  have HP := Lib.hid (fun w (h : SrcAt w W.heap.size (0 + 6 + 2)) => s_Spoil W.heap.size (0 + 6 + 2) T w h (by omega) hsz)
  clear HT hs3 hs4 K2 hb4
  go_wp2_with (first
    | (go_at_call 29; refine (HP.out _ hs5).mono ?_; rintro e w6 ⟨q, rfl, hq, hg6⟩)
    | (go_at_call 28; refine HO.out.mono ?_; rintro e w5 ⟨B, rfl, hg5, hs5⟩))
  · go_ret
    exact ⟨T, rfl, by omega, kept_grown K4 hg5 (fun r e => by have e2 := Option.some.inj e; omega)⟩
  · go_ret
    exact ⟨q, rfl, hq, kept_grown (kept_grown K4 hg5 (fun r e => by have e2 := Option.some.inj e; omega)) hg6 (fun r e => by have e2 := Option.some.inj e; omega)⟩

end Go.Proofs.YtjmklkhdemolmaaGreatDoor
