/- Drawn fares: nothing is said of them but that they are few and their names short. -/
import Derived.Test.YtjmklkhdemolmaaGreatDoorDrawF
import Derived.Test.YtjmklkhdemolmaaGreatDoorMrgA
import Derived.Test.YtjmklkhdemolmaaGreatDoorDecS
import Derived.Deep.DeepMust
import Derived.Maps.AppendAt
namespace Go.Proofs.YtjmklkhdemolmaaGreatDoor
open Go.RowKit Go.Deep
set_option linter.unusedVariables false
set_option maxRecDepth 100000

def setI (j : Nat) (x : Int) (f : Nat → Int) : Nat → Int := fun i => if i = j then x else f i
def setS (j : Nat) (x : ByteArray) (f : Nat → ByteArray) : Nat → ByteArray := fun i => if i = j then x else f i
theorem snoc_fare {w : World} {B j : Nat} {e : TypeId} {v : Value} {a : Nat → ByteArray} {b c d : Nat → Int} {s : ByteArray} {x y u : Int} (h : w.ownsRow B e 4 v (j + 1) (cellsN (gc a b c d) (j * 4) ++ [.string s, .int .i64 x, .int .i64 y, .int .i64 u])) : Out w B e 4 v (j + 1) (gc (setS j s a) (setI j x b) (setI j y c) (setI j u d)) := by
  have e1 : cellsN (gc (setS j s a) (setI j x b) (setI j y c) (setI j u d)) ((j + 1) * 4) = cellsN (gc a b c d) (j * 4) ++ [.string s, .int .i64 x, .int .i64 y, .int .i64 u] := by
    have hc : cellsN (gc a b c d) (j * 4) = cellsN (gc (setS j s a) (setI j x b) (setI j y c) (setI j u d)) (j * 4) := cellsN_congr (fun i hi => by
      unfold gc setS setI
      simp only [show ¬ i / 4 = j by omega, if_false])
    rw [show (j + 1) * 4 = j * 4 + 1 + 1 + 1 + 1 by omega, cellsN_succ, cellsN_succ, cellsN_succ, cellsN_succ, show j * 4 + 1 + 1 = j * 4 + 2 from rfl, show j * 4 + 2 + 1 = j * 4 + 3 from rfl, gc0, gc1, gc2, gc3, hc]
    simp [setS, setI]
  unfold Out
  rw [e1]
  exact h
theorem out_srcF {w w' : World} {B g k n : Nat} {e : TypeId} {v : Value} {f : Nat → Value} (h : Out w B e k v n f) (hg : w.grownBy w' (some g)) (hgB : g < B) : Out w' B e k v n f :=
  World.ownsRow.kept (row := some g) h hg (by
    cases hv : v.ownBlock with
    | none => exact .inl rfl
    | some b => refine .inr fun e => ?_; have := (h.base b hv).1; have e2 := Option.some.inj e; omega)
theorem grown_own {W w w1 : World} {g : Nat} {row : Option Nat} (h : W.grownBy w (some g)) (hg : w.grownBy w1 row) (hr : ∀ r, row = some r → W.heap.size ≤ r) : W.grownBy w1 (some g) :=
  ⟨hg.os.trans h.os, hg.tape.trans h.tape, hg.output.trans h.output, Nat.le_trans h.size hg.size, fun j hj hne => (hg.block j (Nat.lt_of_lt_of_le hj h.size) (by
    cases row with
    | none => simp
    | some r => intro e; have := hr r rfl; have e2 := Option.some.inj e; omega)).trans (h.block j hj hne)⟩
/-- What holds between the draws: the source, the list so far. -/
structure FarL (W w : World) (g : Nat) (cc : Int) (v : Value) (j : Nat) (a : Nat → ByteArray) (b c d : Nat → Int) : Prop where
  grown : W.grownBy w (some g)
  src : SrcAt w g cc
  xs : Out w (W.heap.size + 1) 32 4 v j (gc a b c d)
  short : ∀ i, i < j → (a i).size ≤ 100
theorem FarL.pick {W w w' : World} {g : Nat} {cc dd : Int} {v : Value} {j : Nat} {a : Nat → ByteArray} {b c d : Nat → Int} (h : FarL W w g cc v j a b c d) (hgl : g < W.heap.size) (hg : w.grownBy w' (some g)) (hs : SrcAt w' g dd) : FarL W w' g dd v j a b c d :=
  ⟨grown_trans h.grown hg, hs, out_srcF h.xs hg (by omega), h.short⟩
theorem FarL.kept {W w w' : World} {g : Nat} {cc : Int} {v : Value} {j : Nat} {a : Nat → ByteArray} {b c d : Nat → Int} (h : FarL W w g cc v j a b c d) (hb : Below w.heap.size w w') : FarL W w' g cc v j a b c d :=
  ⟨grown_trans h.grown (grown_of_below hb _), h.src.kept hb, h.xs.kept hb, h.short⟩
theorem FarL.app {W w w1 : World} {g : Nat} {cc : Int} {v v' : Value} {j : Nat} {a : Nat → ByteArray} {b c d : Nat → Int} {o : Obj} {s : ByteArray} {x y u : Int} (h : FarL W w g cc v j a b c d) (hgl : g < W.heap.size) (hs : s.size ≤ 100) (ho : w1.ownsRow (W.heap.size + 1) 32 4 v' (j + 1) (cellsN (gc a b c d) (j * 4) ++ [.string s, .int .i64 x, .int .i64 y, .int .i64 u])) (hg : (w.alloc o).grownBy w1 v.ownBlock) :
    FarL W w1 g cc v' (j + 1) (setS j s a) (setI j x b) (setI j y c) (setI j u d) := by
  have hr : ∀ q, v.ownBlock = some q → W.heap.size + 1 ≤ q := fun q e => (h.xs.base q e).1
  refine ⟨grown_own (grown_alloc h.grown o) hg (fun r e => by have := hr r e; omega), (h.src.kept (kept_alloc (Below.refl _ _) o)).far hg (fun q e => by have := hr q e; omega), snoc_fare ho, fun i hi => ?_⟩
  unfold setS
  split
  · exact hs
  · exact h.short i (by omega)
theorem FarL.form {W w : World} {g : Nat} {cc : Int} {v : Value} {j : Nat} {a : Nat → ByteArray} {b c d : Nat → Int} (h : FarL W w g cc v j a b c d) : ∃ ao cap, v = .slice ao j cap := by
  rcases h.xs.2 with ⟨h0, h1⟩ | ⟨gg, gcap, cur, h0, -⟩
  · exact ⟨_, _, by rw [h0, h1]⟩
  · exact ⟨_, _, h0⟩
theorem FarL.le {W w : World} {g : Nat} {cc dd : Int} {v : Value} {j : Nat} {a : Nat → ByteArray} {b c d : Nat → Int} (h : FarL W w g cc v j a b c d) (hc : cc ≤ dd) : FarL W w g dd v j a b c d := ⟨h.grown, h.src.le hc, h.xs, h.short⟩
/-- A new list. -/
theorem FarL.fresh {W w : World} {g : Nat} {cc : Int} {v : Value} {j : Nat} {a : Nat → ByteArray} {b c d : Nat → Int} (h : FarL W w g cc v j a b c d) (hz : W.heap.size + 1 ≤ w.heap.size) : FarL W (w.alloc (.cells #[] 32)) g cc (.slice (some ⟨w.heap.size, 0, none⟩) 0 0) 0 (fun _ => ⟨#[]⟩) (fun _ => 0) (fun _ => 0) (fun _ => 0) :=
  ⟨grown_alloc h.grown _, h.src.kept (kept_alloc (Below.refl _ _) _), Out.empty _ _ _ _ _ hz, fun i hi => by omega⟩
theorem dec_small {k : Nat} (h : k ≤ 9) : (decS k).size ≤ 10 := by
  have e : (decS k).size = Lib.nDigits k := by unfold decS; simp [ByteArray.size, Lib.decDigits_eq]
  rw [e, Lib.nDigits_small (by omega)]
  omega
theorem append_size (x y : ByteArray) : (x ++ y).size = x.size + y.size := by simp
/-- The names that are drawn from. -/
def NamesAt (w : World) (k n : Nat) : Prop := k < w.heap.size ∧ ∀ i, i < n → ∃ y : ByteArray, w.cell? ⟨k, i, none⟩ = some (.string y) ∧ y.size ≤ 10
theorem NamesAt.far {w w1 : World} {k n : Nat} {row : Option Nat} (h : NamesAt w k n) (hg : w.grownBy w1 row) (hne : ∀ r, row = some r → k ≠ r) : NamesAt w1 k n :=
  ⟨Nat.lt_of_lt_of_le h.1 hg.size, fun i hi => by
    obtain ⟨y, h1, h2⟩ := h.2 i hi
    exact ⟨y, (World.cell?_of_block (a := ⟨k, i, none⟩) (hg.block k h.1 (fun e => hne k e.symm rfl))).trans h1, h2⟩⟩
theorem NamesAt.kept {w w1 : World} {k n : Nat} (h : NamesAt w k n) (hb : Below w.heap.size w w1) : NamesAt w1 k n := h.far (grown_of_below hb none) (fun r e => by cases e)

def FaresPost (W : World) (g : Nat) (cc : Int) (e : Ending) (w' : World) : Prop := ∃ (v : Value) (j : Nat) (a : Nat → ByteArray) (b c d : Nat → Int), e = .returned v ∧ j ≤ 9 ∧ FarL W w' g cc v j a b c d

set_option maxHeartbeats 6400000 in
theorem d_Fares (g : Nat) (b0 : Int) (W : World) (h : SrcAt W g b0) (hb : b0 ≤ 800000000) : Calls Tryz.prog 14 #[.pointer (some ⟨g, 0, none⟩)] W (FaresPost W g (b0 + 400)) := by
  obtain ⟨i0, hi, hz0, hz1, hz2⟩ := info_parts infoFare
  have hgl := h.1
  have HP : Hid (∀ w c m, SrcAt w g c → c ≤ b0 + 1000 → (1 ≤ m ∧ m ≤ 65536) → Calls Tryz.prog 15 #[.pointer (some ⟨g, 0, none⟩), .int .i64 m] w fun e w' => ∃ x : Int, e = .returned (.int .i64 x) ∧ (0 ≤ x ∧ x < m) ∧ w.grownBy w' (some g) ∧ SrcAt w' g (c + 2)) := fun w c m h1 h2 h3 => src_pick g c m w h1 (by omega) h3
  have HO : Hid (∀ w c m, SrcAt w g c → c ≤ b0 + 1000 → (1 ≤ m ∧ m ≤ 65536) → Calls Tryz.prog 28 #[.pointer (some ⟨g, 0, none⟩), .int .i64 m] w fun e w' => ∃ B : Bool, e = .returned (.bool B) ∧ w.grownBy w' (some g) ∧ SrcAt w' g (c + 2)) := fun w c m h1 h2 h3 => src_one g c m w h1 (by omega) h3
  have HF : Hid (∀ w c nm, SrcAt w g c → c ≤ b0 + 1000 → Calls Tryz.prog 26 #[.pointer (some ⟨g, 0, none⟩), .string nm] w fun e w' => ∃ x y u : Int, e = .returned (.agg #[.string nm, .int .i64 x, .int .i64 y, .int .i64 u]) ∧ w.grownBy w' (some g) ∧ SrcAt w' g (c + 6)) := fun w c nm h1 h2 => d_FareOne g c nm w h1 (by omega)
  have N0 : NamesAt (W.alloc (.cells #[.string ⟨#[100, 97, 121]⟩, .string ⟨#[109, 111, 110, 116, 104]⟩, .string ⟨#[115, 105, 110, 103, 108, 101]⟩, .string ⟨#[116, 101, 110]⟩, .string ⟨#[119, 101, 101, 107]⟩] 9)) W.heap.size 5 := ⟨by simp, lit_strs W 9 [⟨#[100, 97, 121]⟩, ⟨#[109, 111, 110, 116, 104]⟩, ⟨#[115, 105, 110, 103, 108, 101]⟩, ⟨#[116, 101, 110]⟩, ⟨#[119, 101, 101, 107]⟩] (by decide)⟩
  have hz : (W.alloc (.cells #[.string ⟨#[100, 97, 121]⟩, .string ⟨#[109, 111, 110, 116, 104]⟩, .string ⟨#[115, 105, 110, 103, 108, 101]⟩, .string ⟨#[116, 101, 110]⟩, .string ⟨#[119, 101, 101, 107]⟩] 9)).heap.size = W.heap.size + 1 := by simp
  have O1 := Out.empty (W.alloc (.cells #[.string ⟨#[100, 97, 121]⟩, .string ⟨#[109, 111, 110, 116, 104]⟩, .string ⟨#[115, 105, 110, 103, 108, 101]⟩, .string ⟨#[116, 101, 110]⟩, .string ⟨#[119, 101, 101, 107]⟩] 9)) 32 4 (gc (fun _ => ⟨#[]⟩) (fun _ => 0) (fun _ => 0) (fun _ => 0)) (W.heap.size + 1) (by rw [hz]; omega)
  rw [hz] at O1
  have F1 : FarL W ((W.alloc (.cells #[.string ⟨#[100, 97, 121]⟩, .string ⟨#[109, 111, 110, 116, 104]⟩, .string ⟨#[115, 105, 110, 103, 108, 101]⟩, .string ⟨#[116, 101, 110]⟩, .string ⟨#[119, 101, 101, 107]⟩] 9)).alloc (.cells #[] 32)) g b0 (.slice (some ⟨W.heap.size + 1, 0, none⟩) 0 0) 0 (fun _ => ⟨#[]⟩) (fun _ => 0) (fun _ => 0) (fun _ => 0) :=
    ⟨grown_alloc (grown_alloc (grown_refl _ _) _) _, (h.kept (kept_alloc (Below.refl _ _) _)).kept (kept_alloc (Below.refl _ _) _), O1, fun i hi => by omega⟩
  have N1 := N0.kept (kept_alloc (Below.refl _ _) (.cells #[] 32))
  have HF1 := Lib.hid F1
  have HN1 := Lib.hid N1
  clear N0 O1 F1 N1 hz h
  unfold FaresPost
  go_enter Tryz.func14, Tryz.ntmps14
  go_wp2
  generalize (W.alloc (.cells #[.string ⟨#[100, 97, 121]⟩, .string ⟨#[109, 111, 110, 116, 104]⟩, .string ⟨#[115, 105, 110, 103, 108, 101]⟩, .string ⟨#[116, 101, 110]⟩, .string ⟨#[119, 101, 101, 107]⟩] 9)).alloc (.cells #[] 32) = w1 at *
  go_loopw [4, 5] (fun u i wr => ∃ (k j : Nat) (v : Value) (a : Nat → ByteArray) (b c d : Nat → Int), u = v ∧ i = .int .i64 k ∧ k ≤ 5 ∧ j ≤ k ∧ Hid (FarL W wr g (b0 + 10 * k) v j a b c d) ∧ Hid (NamesAt wr W.heap.size 5)) (fun _ i _ => 5 - (intOf i).toNat)
  case atStart => exact ⟨0, 0, _, _, _, _, _, rfl, rfl, by omega, by omega, by simpa using HF1, HN1⟩
  case round =>
    clear HF1 HN1
    obtain ⟨k, j, v, a, b, c, d, rfl, rfl, hk, hjk, HL, HNm⟩ := hrel
    by_cases hlt : k < 5
    · as_aux_lemma =>
      obtain ⟨nm, hnm, hns⟩ := HNm.out.2 k hlt
      have hk5 : (k : Int) < 5 := by omega
      go_wp2_with (go_at_call 28; refine (HO.out _ _ _ HL.out.src (by omega) (by omega)).mono ?_; rintro e w2 ⟨B, rfl, hg2, hs2⟩; have F2 := Lib.hid (HL.out.pick hgl hg2 hs2); have N2 := Lib.hid (HNm.out.far hg2 (fun r e => by have e2 := Option.some.inj e; omega)); obtain ⟨nm2, hnm2, hns2⟩ := N2.out.2 k hlt; clear HL HNm hnm hns hg2 hs2)
      · go_wp2_with (first
          | ((at_builtin; refine wpList_append_own _ rfl _ _ 24 rfl _ 32 i0 _ 4 40 Tryz.underlying24 hi hz0 hz1 hz2 rfl (by decide) _ _ _ rfl ((F3.out.xs).row.alloc _) ⟨w3.heap.size, 0, none⟩ 1 1 _ (by rfl) (by rfl) (laid_at (by simp)) (by intro u hu; simp at hu; rcases hu with rfl | rfl | rfl | rfl <;> rfl) (by simp only [maxLen]; omega) (by omega) (by have hbs := F3.out.grown.size; simp at hbs ⊢; omega) ?_; intro v4 w4 hown4 hgrow4 _); have F4 := Lib.hid (F3.out.app hgl (by omega) hown4 hgrow4); have N4 := Lib.hid ((N3.out.kept (kept_alloc (Below.refl _ _) _)).far hgrow4 (fun r e => by have := (F3.out.xs.base r e).1; omega)); clear F3 N3 hown4 hgrow4)
          | (go_at_call 26; refine (HF.out _ _ _ F2.out.src (by omega)).mono ?_; rintro e w3 ⟨x, y, u, rfl, hg3, hs3⟩; have F3 := Lib.hid (F2.out.pick hgl hg3 hs3); have N3 := Lib.hid (N2.out.far hg3 (fun r e => by have e2 := Option.some.inj e; omega)); clear F2 N2 hnm2 hg3 hs3))
        go_roundw
        case rel => exact ⟨k + 1, j + 1, _, _, _, _, _, rfl, by go_num, by omega, by omega, Lib.hid (F4.out.le (by omega)), N4⟩
        case measure => simp [intOf]; omega
      · exact ⟨⟨k + 1, j, _, _, _, _, _, rfl, by go_num, by omega, by omega, Lib.hid (F2.out.le (by omega)), N2⟩, by simp [intOf]; omega⟩
    · as_aux_lemma =>
      obtain rfl : k = 5 := by omega
      have hNz := HNm.out.1
      go_upto_region 9 with (go_at_call 15; refine (HP.out _ _ _ HL.out.src (by omega) (by omega)).mono ?_; rintro e w2 ⟨x20, rfl, hx20, hg2, hs2⟩)
      have F2 := Lib.hid (HL.out.pick hgl hg2 hs2)
      have hzz : W.heap.size + 1 ≤ w2.heap.size := Nat.le_trans (by omega) hg2.size
      clear HL HNm hg2 hs2
      rcases (show x20 = 0 ∨ x20 = 1 ∨ (¬ x20 = 0 ∧ ¬ x20 = 1) by omega) with rfl | rfl | ⟨hn0, hn1⟩
      · as_aux_lemma =>
        go_wp2_with (first
          | ((at_builtin; refine wpList_append_own _ rfl _ _ 24 rfl _ 32 i0 _ 4 40 Tryz.underlying24 hi hz0 hz1 hz2 rfl (by decide) _ _ _ rfl ((F5.out.xs).row.alloc _) ⟨w5.heap.size, 0, none⟩ 1 1 _ (by rfl) (by rfl) (laid_at (by simp)) (by intro u hu; simp at hu; rcases hu with rfl | rfl | rfl | rfl <;> rfl) (by simp only [maxLen]; omega) (by omega) (by have hbs := F5.out.grown.size; simp at hbs ⊢; omega) ?_; intro v6 w6 hown6 hgrow6 _); have F6 := Lib.hid (F5.out.app hgl (by decide) hown6 hgrow6); clear F5 hown6 hgrow6)
          | (go_at_call 33; refine (d_FareBent g _ _ _ _ _ _ F3.out.src (by omega)).mono ?_; rintro e w5 ⟨x, y, u, rfl, hg5, hs5⟩; have F5 := Lib.hid (F3.out.pick hgl hg5 hs5); clear F3 hg5 hs5)
          | (go_at_call 26; refine (HF.out _ _ _ F2.out.src (by omega)).mono ?_; rintro e w3 ⟨x, y, u, rfl, hg3, hs3⟩; have F3 := Lib.hid (F2.out.pick hgl hg3 hs3); clear F2 hg3 hs3))
        go_ret
        exact ⟨_, _, _, _, _, _, rfl, by omega, F6.out.le (by omega)⟩
      · as_aux_lemma =>
        have HA := Lib.hid (src_among g w2.heap.size 2 2 _ 8 9 _ (F2.out.src.kept (kept_alloc (Below.refl _ _) _)) (by omega) (by omega) (by have := F2.out.src.1; omega) (lit_cells w2 2 [8, 9] (by decide)))
        have HKK := Lib.hid (fun (o : Obj) (w4 : World) (dd : Int) (hg : (w2.alloc o).grownBy w4 (some g)) (hs : SrcAt w4 g dd) => And.intro ((F2.out.kept (kept_alloc (Below.refl _ _) o)).pick hgl hg hs) (show W.heap.size + 1 ≤ w4.heap.size by have := hg.size; simp at this; omega))
        go_upto_region 13 with (go_at_call 16; refine HA.out.mono ?_; rintro e w4 ⟨q, rfl, hq, hg4, hs4⟩; obtain ⟨F4, hz4⟩ := HKK.out _ _ _ hg4 hs4)
        obtain ⟨m, rfl, hm⟩ : ∃ m : Nat, q = m ∧ m ≤ 9 := ⟨q.toNat, by omega, by omega⟩
        have F5 := Lib.hid (F4.fresh hz4)
        clear F2 HA HKK F4 hg4 hs4
        go_wp2
        generalize w4.alloc (.cells #[] 32) = w5 at *
        go_loopw [4, 7] (fun u i wr => ∃ (k : Nat) (v : Value) (a : Nat → ByteArray) (b c d : Nat → Int), u = v ∧ i = .int .i64 k ∧ k ≤ m ∧ Hid (FarL W wr g (b0 + 60 + 10 * k) v k a b c d)) (fun _ i _ => m - (intOf i).toNat)
        case atStart => exact ⟨0, _, _, _, _, _, rfl, rfl, by omega, Lib.hid (F5.out.le (by omega))⟩
        case round =>
          clear F5
          obtain ⟨k, v, a, b, c, d, rfl, rfl, hk, HL⟩ := hrel
          by_cases hlt : k < m
          · as_aux_lemma =>
            have hds := dec_small (k := k) (by omega)
            have hsz : (⟨#[110]⟩ ++ decS k : ByteArray).size ≤ 100 := by rw [append_size]; show 1 + _ ≤ _; omega
            have HD := Lib.hid (fun w => s_l01Dec k w (by omega))
            have HSZ := Lib.hid hsz
            have hsb : ¬ (9223372036854775807 < 1 + (decS k).size) := by omega
            clear hsz
            generalize decS k = dk at *
            go_wp2_with (first
              | ((at_builtin; refine wpList_append_own _ rfl _ _ 24 rfl _ 32 i0 _ 4 40 Tryz.underlying24 hi hz0 hz1 hz2 rfl (by decide) _ _ _ rfl ((F3.out.xs).row.alloc _) ⟨w3.heap.size, 0, none⟩ 1 1 _ (by rfl) (by rfl) (laid_at (by simp)) (by intro u hu; simp at hu; rcases hu with rfl | rfl | rfl | rfl <;> rfl) (by simp only [maxLen]; omega) (by omega) (by have hbs := F3.out.grown.size; simp at hbs ⊢; omega) ?_; intro v4 w4 hown4 hgrow4 _); have F4 := Lib.hid (F3.out.app hgl HSZ.out hown4 hgrow4); clear F3 hown4 hgrow4)
              | (go_at_call 26; refine (HF.out _ _ _ F2.out.src (by omega)).mono ?_; rintro e w3 ⟨x, y, u, rfl, hg3, hs3⟩; have F3 := Lib.hid (F2.out.pick hgl hg3 hs3); clear F2 hg3 hs3)
              | (go_at_call 34; refine (HD.out _).mono ?_; rintro e w2 ⟨rfl, hb2⟩; have F2 := Lib.hid (HL.out.kept hb2); clear HL hb2))
            go_roundw
            case rel => exact ⟨k + 1, _, _, _, _, _, rfl, by go_num, by omega, Lib.hid (F4.out.le (by omega))⟩
            case measure => simp [intOf]; omega
          · as_aux_lemma =>
            obtain ⟨ao, cap, rfl⟩ := HL.out.form
            go_wp2
            go_ret
            exact ⟨_, _, _, _, _, _, rfl, by omega, HL.out.le (by omega)⟩
      · as_aux_lemma =>
        go_wp2
        go_ret
        exact ⟨_, _, _, _, _, _, rfl, by omega, F2.out.le (by omega)⟩

end Go.Proofs.YtjmklkhdemolmaaGreatDoor
