/- The first texts of this proof, put together: what each part says stands ahead of it. No condition. -/
import Derived.Test.YtjmklkhdemolmaaGreatDoorMrgA
import Derived.Deep.DeepMust
import Derived.Deep.RegionHeld3
import Derived.IntWalk
import Derived.Lib.SlBytesRow
import Derived.Deep.DeepCutAuto
import Derived.Maps.AppendAt
import Derived.Deep.QuietTactic
import Derived.BigQuiet
import Derived.Laws.BitsAllLaws
/- The walks of the laws themselves, over any answers of the two functions that they compare. -/
namespace Go.Proofs.YtjmklkhdemolmaaGreatDoor
open Go.RowKit Go.Deep
set_option maxRecDepth 100000

end Go.Proofs.YtjmklkhdemolmaaGreatDoor

/- Marks of texts. -/
namespace Go.Proofs.YtjmklkhdemolmaaGreatDoor
open Go.RowKit Go.Deep
set_option linter.unusedVariables false
set_option maxRecDepth 100000

/-- The text of a number's last digit. -/
def dig (j : Nat) : ByteArray := ⟨#[UInt8.ofNat (48 + j % 10)]⟩
theorem dig_size (j : Nat) : (dig j).size = 1 := rfl
def dgs : Nat → Nat → ByteArray → ByteArray
  | 0, _, o => o
  | f + 1, k, o => if k = 0 then o else dgs f (k / 10) (dig k ++ o)

/-- The text of one digit, made from its byte. -/
theorem digit_text (w : World) (j : Nat) : (convert 22 9 (.slice (some ⟨w.heap.size, 0, none⟩) 1 1)).run Tryz.prog (w.alloc (.cells #[.int .u8 (48 + (j : Int) % 10)] 5)) = .ok (.string (dig j)) (w.alloc (.cells #[.int .u8 (48 + (j : Int) % 10)] 5)) := by
  refine Lib.run_convert_whole _ _ 5 _ Tryz.underlying22 Tryz.underlying5 Tryz.underlying9 w.heap.size 0 ⟨#[UInt8.ofNat (48 + j % 10)]⟩ ?_ 1
  intro i hi
  have h0 : i = 0 := by have : (⟨#[UInt8.ofNat (48 + j % 10)]⟩ : ByteArray).size = 1 := rfl; omega
  subst h0
  have hv : ((⟨#[UInt8.ofNat (48 + j % 10)]⟩ : ByteArray)[0].toNat : Int) = 48 + (j : Int) % 10 := by
    show (((UInt8.ofNat (48 + j % 10)).toNat : Nat) : Int) = 48 + (j : Int) % 10
    simp
    omega
  rw [hv]
  exact boxed_at rfl rfl

theorem dgs_zero (o : ByteArray) : dgs 0 0 o = o := rfl
theorem dgs_more : ∀ (f g k : Nat) (o : ByteArray), k ≤ f → k ≤ g → dgs f k o = dgs g k o
  | 0, 0, k, o, _, _ => rfl
  | 0, g + 1, k, o, h, _ => by
    have : k = 0 := by omega
    subst this
    simp [dgs]
  | f + 1, 0, k, o, _, h => by
    have : k = 0 := by omega
    subst this
    simp [dgs]
  | f + 1, g + 1, k, o, h1, h2 => by
    by_cases hk : k = 0
    · simp [dgs, hk]
    · simp only [dgs, if_neg hk]
      exact dgs_more f g (k / 10) _ (by omega) (by omega)
theorem dgs_step {j : Nat} (h : 0 < j) (o : ByteArray) : dgs (j / 10) (j / 10) (dig j ++ o) = dgs j j o := by
  obtain ⟨f, rfl⟩ : ∃ f, j = f + 1 := ⟨j - 1, by omega⟩
  conv => rhs; rw [dgs]
  rw [if_neg (by omega)]
  exact dgs_more _ _ _ _ (Nat.le_refl _) (by omega)
/-- The mark's text. -/
def mkT (k : Nat) : ByteArray := ⟨#[109]⟩ ++ dgs k k ⟨#[]⟩
theorem mkT_eq (k : Nat) : (⟨#[109]⟩ : ByteArray) ++ dgs k k ⟨#[]⟩ = mkT k := rfl
attribute [irreducible] dig dgs mkT

theorem rowIs_kept {w w' : World} {b n : Nat} {t : TypeId} {f : Nat → Value} (h : w.rowIs b t n f) (hb : Below w.heap.size w w') : w'.rowIs b t n f := h.of_block (hb.block _ h.lt)
theorem grown_kept {a b c : World} {row : Option Nat} (h : a.grownBy b row) (hb : Below b.heap.size b c) : a.grownBy c row := h.trans (grown_of_below hb row)

def sc (t : Nat → ByteArray) : Nat → Value := fun j => .string (t j)

end Go.Proofs.YtjmklkhdemolmaaGreatDoor

/- Choices read from bytes: the source's two functions. Nothing is said of which byte it is, only that it is one. -/
namespace Go.Proofs.YtjmklkhdemolmaaGreatDoor
open Go.RowKit Go.Deep
set_option linter.unusedVariables false
set_option maxRecDepth 100000

/-- Block g is a source that has read b bytes at most; the bytes lie in a block below g. -/
def SrcAt (w : World) (g : Nat) (b : Int) : Prop :=
  g < w.heap.size ∧ (∀ i, w.frozen? ⟨g, i, none⟩ = false) ∧ ∃ (ao : Option Addr) (n cap : Nat) (k sd : Int),
    w.cell? ⟨g, 0, none⟩ = some (.slice ao n cap) ∧ w.cell? ⟨g, 1, none⟩ = some (.int .i64 k) ∧ w.cell? ⟨g, 2, none⟩ = some (.int .u64 sd) ∧
    0 ≤ k ∧ k ≤ b ∧ 0 ≤ sd ∧ sd ≤ 18446744073709551615 ∧ n ≤ 1048576 ∧
    (n = 0 ∨ ∃ c o, ao = some ⟨c, o, none⟩ ∧ c < g ∧ ∀ i, i < n → ∃ y : Int, w.cell? ⟨c, o + i, none⟩ = some (.int .u8 y) ∧ 0 ≤ y ∧ y ≤ 255)
theorem SrcAt.far {w w' : World} {g : Nat} {b : Int} {row : Option Nat} (h : SrcAt w g b) (hg : w.grownBy w' row) (hr : ∀ r, row = some r → g < r) : SrcAt w' g b := by
  obtain ⟨h1, hf, ao, n, cap, k, sd, c0, c1, c2, h2, h3, h4, h5, h6, h7⟩ := h
  have hne : some g ≠ row := fun e => by have := hr g e.symm; omega
  have hc : ∀ i v, w.cell? ⟨g, i, none⟩ = some v → w'.cell? ⟨g, i, none⟩ = some v := fun i v hv => (World.cell?_of_block (a := ⟨g, i, none⟩) (hg.block g h1 hne)).trans hv
  refine ⟨Nat.lt_of_lt_of_le h1 hg.size, fun i => ?_, ao, n, cap, k, sd, hc _ _ c0, hc _ _ c1, hc _ _ c2, h2, h3, h4, h5, h6, ?_⟩
  · have := hf i
    unfold World.frozen? at this ⊢
    rw [hg.block g h1 hne]
    exact this
  · rcases h7 with h7 | ⟨c, o, e, hcg, hy⟩
    · exact .inl h7
    · refine .inr ⟨c, o, e, hcg, fun i hi => ?_⟩
      obtain ⟨y, q1, q2⟩ := hy i hi
      exact ⟨y, (World.cell?_of_block (a := ⟨c, o + i, none⟩) (hg.block c (by omega) (fun e => by have := hr c e.symm; omega))).trans q1, q2⟩
theorem SrcAt.kept {w w' : World} {g : Nat} {b : Int} (h : SrcAt w g b) (hb : Below w.heap.size w w') : SrcAt w' g b := h.far (grown_of_below hb none) (fun r e => by cases e)
theorem SrcAt.le {w : World} {g : Nat} {b c : Int} (h : SrcAt w g b) (hc : b ≤ c) : SrcAt w g c := by
  obtain ⟨h1, hf, ao, n, cap, k, sd, c0, c1, c2, h2, h3, h4⟩ := h
  exact ⟨h1, hf, ao, n, cap, k, sd, c0, c1, c2, h2, by omega, h4⟩

theorem SrcAt.step {w : World} {g : Nat} {b k sd sd' : Int} {ao : Option Addr} {n cap : Nat} (h : SrcAt w g b) (c1 : w.cell? ⟨g, 1, none⟩ = some (.int .i64 k)) (c2 : w.cell? ⟨g, 2, none⟩ = some (.int .u64 sd)) (h0 : 0 ≤ sd' ∧ sd' ≤ 18446744073709551615) (d e : Nat) :
    SrcAt ((((w.drewN d).setCell ⟨g, 1, none⟩ (.int .i64 (k + 1))).setCell ⟨g, 2, none⟩ (.int .u64 sd')).drewN e) g (b + 1) := by
  obtain ⟨h1, hf, ao, n, cap, k2, sd2, q0, q1, q2, h2, h3, h4, h5, h6, h7⟩ := h
  obtain rfl : k2 = k := by rw [q1] at c1; injection c1 with c1; injection c1
  have e1 : (w.drewN d).cell? ⟨g, 1, none⟩ = some (.int .i64 k2) := q1
  have e2 : (w.drewN d).cell? ⟨g, 2, none⟩ = some (.int .u64 sd2) := q2
  refine ⟨by show g < (((w.drewN d).setCell _ _).setCell _ _).heap.size; simp; exact h1, fun i => ?_, ao, n, cap, k2 + 1, sd', ?_, ?_, ?_, by omega, by omega, h0.1, h0.2, h6, ?_⟩
  · show ((((w.drewN d).setCell _ _).setCell _ _)).frozen? _ = false
    rw [World.frozen?_setCell, World.frozen?_setCell]
    exact hf i
  · show ((((w.drewN d).setCell _ _).setCell _ _)).cell? _ = _
    rw [World.cell?_setCell_other _ _ _ _ (by simp), World.cell?_setCell_other _ _ _ _ (by simp)]
    exact q0
  · show ((((w.drewN d).setCell _ _).setCell _ _)).cell? _ = _
    rw [World.cell?_setCell_other _ _ _ _ (by simp)]
    exact World.cell?_setCell_same _ _ _ e1
  · show ((((w.drewN d).setCell _ _).setCell _ _)).cell? _ = _
    exact World.cell?_setCell_same _ _ _ ((World.cell?_setCell_other _ _ _ _ (by simp)).trans e2)
  · rcases h7 with h7 | ⟨c, o, e, hcg, hy⟩
    · exact .inl h7
    · refine .inr ⟨c, o, e, hcg, fun i hi => ?_⟩
      obtain ⟨y, r1, r2⟩ := hy i hi
      refine ⟨y, ?_, r2⟩
      show ((((w.drewN d).setCell _ _).setCell _ _)).cell? _ = _
      have hne : ∀ j, (⟨c, o + i, none⟩ : Addr) ≠ ⟨g, j, none⟩ := fun j e => by have := congrArg (fun a : Addr => a.block) e; simp at this; omega
      rw [World.cell?_setCell_other _ _ _ _ (by first | exact hne _ | exact (hne _).symm), World.cell?_setCell_other _ _ _ _ (by first | exact hne _ | exact (hne _).symm)]
      exact r1
theorem grown_step (w : World) (g : Nat) (u v : Value) (d e : Nat) : w.grownBy ((((w.drewN d).setCell ⟨g, 1, none⟩ u).setCell ⟨g, 2, none⟩ v).drewN e) (some g) := by
  have h := grown_set (grown_set (g := g) (grown_of_below (kept_drewN (Below.refl w.heap.size w) d) (some g)) 1 u) 2 v
  exact ⟨h.os, h.tape, h.output, h.size, h.block⟩
theorem and255 {E : Int} (h : 0 ≤ E ∧ E ≤ 18446744073709551615) : 0 ≤ wrap64 (bits .and .u64 E 255) ∧ wrap64 (bits .and .u64 E 255) ≤ 255 := by
  rw [u64_and E 255 h.1 (by omega) (by omega) (by omega)]
  have h1 : E.toNat &&& (255 : Int).toNat ≤ 255 := Nat.and_le_right
  have h2 : wrap64 (((E.toNat &&& (255 : Int).toNat : Nat)) : Int) = ((E.toNat &&& (255 : Int).toNat : Nat) : Int) := by unfold wrap64; omega
  rw [h2]
  omega
theorem u64_bd (n : Int) : 0 ≤ IntKind.u64.wrap n ∧ IntKind.u64.wrap n ≤ 18446744073709551615 := by rw [IntKind.wrap_u64]; omega

set_option maxHeartbeats 800000 in
theorem src_next (g : Nat) (b : Int) (w : World) (h : SrcAt w g b) (hb : b ≤ 1000000000) : Calls Tryz.prog 35 #[.pointer (some ⟨g, 0, none⟩)] w fun e w' => ∃ x : Int, e = .returned (.int .i64 x) ∧ (0 ≤ x ∧ x ≤ 255) ∧ w.grownBy w' (some g) ∧ SrcAt w' g (b + 1) := by
  have H := Lib.hid h
  obtain ⟨h1, hf, ao, n, cap, k, sd, c0, c1, c2, h2, h3, h4, h5, h6, h7⟩ := h
  have HS := Lib.hid (fun sd' h0 d e => H.out.step (sd' := sd') (ao := ao) (n := n) (cap := cap) c1 c2 h0 d e)
  have f1 := hf 1
  have f2 := hf 2
  by_cases hk : k < n
  · rcases h7 with h7 | ⟨c, o, rfl, hcg, hy⟩
    · omega
    obtain ⟨i, rfl⟩ : ∃ i : Nat, k = (i : Int) := ⟨k.toNat, by omega⟩
    obtain ⟨y, cy, y0, y1⟩ := hy i (by omega)
    clear hy hf H
    go_enter Tryz.func35, Tryz.ntmps35
    go_wp2
    go_quiet (fail)
    go_wp2
    go_quiet (fail)
    go_wp2
    go_quiet (fail)
    go_wp2
    go_ret
    exact ⟨y, rfl, ⟨y0, y1⟩, grown_step _ _ _ _ _ _, HS.out _ (u64_bd _) _ _⟩
  · clear h7 hf H
    go_enter Tryz.func35, Tryz.ntmps35
    go_wp2
    go_quiet (fail)
    go_wp2
    go_quiet (fail)
    go_wp2
    go_ret
    exact ⟨_, rfl, and255 (by have := u64_bd (IntKind.u64.wrap (IntKind.u64.wrap (sd * 6364136223846793005)) + 1442695040888963407); omega), grown_step _ _ _ _ _ _, HS.out _ (u64_bd _) _ _⟩

theorem grown_trans {a b c : World} {row : Option Nat} (h : a.grownBy b row) (k : b.grownBy c row) : a.grownBy c row :=
  ⟨k.os.trans h.os, k.tape.trans h.tape, k.output.trans h.output, Nat.le_trans h.size k.size, fun i hi hne => (k.block i (Nat.lt_of_lt_of_le hi h.size) hne).trans (h.block i hi hne)⟩

theorem src_pick (g : Nat) (b m : Int) (w : World) (h : SrcAt w g b) (hb : b ≤ 999999990) (hm : 1 ≤ m ∧ m ≤ 65536) : Calls Tryz.prog 15 #[.pointer (some ⟨g, 0, none⟩), .int .i64 m] w fun e w' => ∃ x : Int, e = .returned (.int .i64 x) ∧ (0 ≤ x ∧ x < m) ∧ w.grownBy w' (some g) ∧ SrcAt w' g (b + 2) := by
  have HN := Lib.hid (fun w c (hs : SrcAt w g c) (hc : c ≤ b + 1) => src_next g c w hs (by omega))
  have H := Lib.hid h
  clear h
  by_cases h1 : m ≤ 1
  · go_enter Tryz.func15, Tryz.ntmps15
    go_wp2
    go_ret
    exact ⟨0, rfl, by omega, grown_of_below (Below.refl _ _) _, H.out.le (by omega)⟩
  · by_cases h2 : 200 < m
    · go_enter Tryz.func15, Tryz.ntmps15
      go_wp2_with (first
        | (go_at_call 35; refine (HN.out _ _ hs1 (by omega)).mono ?_; rintro e w2 ⟨y, rfl, hy, hg2, hs2⟩)
        | (go_at_call 35; refine (HN.out _ _ H.out (by omega)).mono ?_; rintro e w1 ⟨x, rfl, hx, hg1, hs1⟩))
      go_ret
      exact ⟨_, rfl, ⟨Int.emod_nonneg _ (by omega), Int.emod_lt_of_pos _ (by omega)⟩, grown_trans hg1 hg2, hs2.le (by omega)⟩
    · go_enter Tryz.func15, Tryz.ntmps15
      go_wp2_with (go_at_call 35; refine (HN.out _ _ H.out (by omega)).mono ?_; rintro e w1 ⟨x, rfl, hx, hg1, hs1⟩)
      go_ret
      exact ⟨_, rfl, ⟨Int.emod_nonneg _ (by omega), Int.emod_lt_of_pos _ (by omega)⟩, hg1, hs1.le (by omega)⟩

end Go.Proofs.YtjmklkhdemolmaaGreatDoor

/- Byte slices as a law's arguments; the source made over them; the choices that the laws take of them. -/
namespace Go.Proofs.YtjmklkhdemolmaaGreatDoor
open Go.ChangeShapes Go.WideShapes Go.RowKit Go.Deep
set_option linter.unusedVariables false
set_option maxRecDepth 100000

/-- v is a slice of n bytes. -/
def ByS (w : World) (v : Value) (n : Nat) : Prop :=
  n ≤ 140737488355328 ∧ ∃ ao cap, v = .slice ao n cap ∧ (n = 0 ∨ ∃ g off, ao = some ⟨g, off, none⟩ ∧ g < w.heap.size ∧ ∀ i, i < n → ∃ y : Int, w.cell? ⟨g, off + i, none⟩ = some (.int .u8 y) ∧ 0 ≤ y ∧ y ≤ 255)
theorem ByS.kept {w w1 : World} {v : Value} {n : Nat} (h : ByS w v n) (hb : Below w.heap.size w w1) : ByS w1 v n := by
  obtain ⟨h1, ao, cap, h2, h3⟩ := h
  refine ⟨h1, ao, cap, h2, ?_⟩
  rcases h3 with h3 | ⟨g, off, e, hg, hy⟩
  · exact .inl h3
  · exact .inr ⟨g, off, e, Nat.lt_of_lt_of_le hg hb.size, fun i hi => by obtain ⟨y, q1, q2⟩ := hy i hi; exact ⟨y, cell_keep hb q1, q2⟩⟩

section
variable {H : Type} {enc : TypeId × Value → H} {W : World} {base : Nat}

theorem open_slb {t e : TypeId} {k : Nat} {v : Value} {d : DataW H} {p : List MemPlace} (ht : Tryz.prog.underlying t = some (.slice e)) (hk : Tryz.prog.cellsOf e = k) (hk0 : 0 < k) (hby : 1 ≤ Tryz.prog.bytesOf e)
    (hv : Value.okWide Tryz.prog W .any base t v) (h : DataW.Trod enc Tryz.prog W 0 (fun _ => true) true t v d p) (hlt : ∀ x ∈ p, x.block < W.heap.size) (hw : ∀ n ∈ d.weights Tryz.prog t, n ≤ reachBytes) :
    ∃ (n : Nat) (f : Nat → Value), (n ≤ 140737488355328 ∧ ∃ ao cap, v = .slice ao n cap ∧ (n = 0 ∨ ∃ g off, ao = some ⟨g, off, none⟩ ∧ Row W g off (n * k) f)) ∧ ∀ i, i < n → ∃ m y, DataW.trod enc Tryz.prog W 0 (fun _ => true) true m e ((List.range k).map fun j => f (i * k + j)) = some y := by
  obtain ⟨a0, len0, cap0, rfl⟩ := okWide_slice ht hv
  obtain ⟨fuel, hf⟩ := h
  rcases open_slice ht hf with ⟨hcs, _⟩ | ⟨a, len, cap, m, n, D, Pl, hcs, _, hl, hm, hmm, hx, hi⟩
  · simp [Value.cells] at hcs
    obtain ⟨rfl, rfl, rfl⟩ := hcs
    exact ⟨0, fun _ => undef, ⟨by omega, _, _, rfl, .inl rfl⟩, fun i hi => by omega⟩
  · simp [Value.cells] at hcs
    obtain ⟨rfl, rfl, rfl⟩ := hcs
    simp only [if_true] at hmm
    subst hmm
    simp only [Prod.mk.injEq] at hx
    obtain ⟨rfl, rfl⟩ := hx
    rw [hk] at hi
    have hsize : len0 ≤ 140737488355328 := by
      have := hw _ (by simp only [DataW.weights, ht]; exact List.mem_cons_self)
      simp only [List.length_map, List.length_range, reachBytes] at this
      have h2 : len0 * 1 ≤ (len0 + (m - len0)) * Tryz.prog.bytesOf e := Nat.mul_le_mul (by omega) hby
      omega
    have hcell : ∀ i, i < len0 → ∀ j, j < k → ∃ u, W.cell? (a.add (i * k + j)) = some u := by
      intro i hil j hj
      obtain ⟨cs', hc, _⟩ := hi i (by omega)
      obtain ⟨_, hcl, hat⟩ := World.cells?_some hc
      have := hat j hj
      rw [← Go.Deep.add_add, this, List.getElem?_eq_getElem (by omega)]
      exact ⟨_, rfl⟩
    refine ⟨len0, fun j => (W.cell? (a.add j)).getD undef, ⟨hsize, _, _, rfl, ?_⟩, ?_⟩
    · by_cases h0 : len0 = 0
      · exact .inl h0
      · obtain ⟨b, off, spot⟩ := a
        obtain ⟨u, hu⟩ := hcell 0 (by omega) 0 hk0
        have hspot : spot = none := by simpa [Addr.add] using World.cell?_spot hu
        subst hspot
        refine .inr ⟨b, off, rfl, hlt (.cell b off) (List.mem_append_left _ (MemPlace.mem_row.2 ⟨0, ?_, by simp⟩)), fun j hj => ?_⟩
        · rw [hk]; exact Nat.mul_pos (by omega) hk0
        · have hd : j / k < len0 := Nat.div_lt_of_lt_mul (by rw [Nat.mul_comm]; exact hj)
          have hm2 := Nat.mod_lt j hk0
          obtain ⟨u, hu⟩ := hcell (j / k) hd (j % k) hm2
          have e1 : j / k * k + j % k = j := by rw [Nat.mul_comm]; exact Nat.div_add_mod j k
          rw [e1] at hu
          have e2 : (⟨b, off, none⟩ : Addr).add j = ⟨b, off + j, none⟩ := by simp [Addr.add]
          rw [e2] at hu
          show W.cell? ⟨b, off + j, none⟩ = some ((W.cell? ((⟨b, off, none⟩ : Addr).add j)).getD undef)
          rw [e2, hu]; rfl
    · intro i hil
      obtain ⟨cs', hc, ht'⟩ := hi i (by omega)
      obtain ⟨_, hcl, hat⟩ := World.cells?_some hc
      have e1 : (List.range k).map (fun j => (W.cell? (a.add (i * k + j))).getD undef) = cs' := by
        apply List.ext_getElem?
        intro j
        by_cases hj : j < k
        · rw [List.getElem?_map, List.getElem?_range hj]
          have := hat j hj
          rw [Go.Deep.add_add] at this
          simp only [Option.map_some, this, List.getElem?_eq_getElem (show j < cs'.length by omega), Option.getD_some]
        · rw [List.getElem?_eq_none (by simpa using hj), List.getElem?_eq_none (by omega)]
      exact ⟨n, _, by rw [e1]; exact ht'⟩

theorem u8_wf {n : Int} (h : (Lit.int .u8 n).wf = true) : 0 ≤ n ∧ n ≤ 255 := by
  have h1 : IntKind.u8.min = 0 := rfl
  have h2 : IntKind.u8.max = 255 := rfl
  simp only [Lit.wf, Bool.and_eq_true, decide_eq_true_eq] at h
  omega
theorem open_bytes {v : Value} {d : DataW H} {p : List MemPlace} (hv : Value.okWide Tryz.prog W .any base 22 v) (h : DataW.Trod enc Tryz.prog W 0 (fun _ => true) true 22 v d p) (hlt : ∀ x ∈ p, x.block < W.heap.size) (hw : ∀ n ∈ d.weights Tryz.prog 22, n ≤ reachBytes) :
    ∃ n, ByS W v n := by
  obtain ⟨n, f, ⟨hn, ao, cap, hv2, hs⟩, he⟩ := open_slb Tryz.underlying22 (k := 1) (by kernel_rfl) (by omega) (of_decide_eq_true (by kernel_rfl)) hv h hlt hw
  refine ⟨n, hn, ao, cap, hv2, ?_⟩
  rcases hs with h0 | ⟨g, off, e, hr⟩
  · exact .inl h0
  · refine .inr ⟨g, off, e, hr.1, fun i hi => ?_⟩
    obtain ⟨m, y, hy⟩ := he i hi
    obtain ⟨q, e0, -, wq⟩ := DataW.trod_int Tryz.underlying5 hy
    simp at e0
    have hc := hr.2 i (by omega)
    rw [e0] at hc
    exact ⟨q, hc, u8_wf wq⟩
end

theorem src_from (v : Value) (n : Nat) (W : World) (h : ByS W v n) (hn : n ≤ 1048576) : Calls Tryz.prog 13 #[v] W fun e W' => e = .returned (.pointer (some ⟨W.heap.size, 0, none⟩)) ∧ Below W.heap.size W W' ∧ SrcAt W' W.heap.size 0 ∧ W'.heap.size = W.heap.size + 1 := by
  obtain ⟨h1, ao, cap, rfl, h3⟩ := h
  have HS : Hid (SrcAt (W.alloc (.cells #[.slice ao n cap, .int .i64 0, .int .u64 0] 67)) W.heap.size 0) := by
    refine ⟨by simp, fun i => World.frozen?_alloc_at _ _ _ i rfl, ao, n, cap, 0, 0, boxed_at rfl rfl, boxed_at rfl rfl, boxed_at rfl rfl, by omega, by omega, by omega, by omega, hn, ?_⟩
    rcases h3 with h3 | ⟨g, off, e, hg, hy⟩
    · exact .inl h3
    · exact .inr ⟨g, off, e, hg, fun i hi => by obtain ⟨y, q1, q2⟩ := hy i hi; exact ⟨y, cell_keep (kept_alloc (Below.refl _ _) _) q1, q2⟩⟩
  clear h3
  go_enter Tryz.func13, Tryz.ntmps13
  go_wp2
  go_ret
  exact ⟨rfl, kept_alloc (Below.refl _ _) _, HS.out, by simp⟩

end Go.Proofs.YtjmklkhdemolmaaGreatDoor

/- More choices read from bytes: once in n times, one of some numbers. -/
namespace Go.Proofs.YtjmklkhdemolmaaGreatDoor
open Go.RowKit Go.Deep
set_option linter.unusedVariables false
set_option maxRecDepth 100000

theorem grown_alloc {w w1 : World} {row : Option Nat} (h : w.grownBy w1 row) (o : Obj) : w.grownBy (w1.alloc o) row :=
  grown_trans h (grown_of_below (kept_alloc (Below.refl _ _) o) row)
theorem grown_refl (w : World) (row : Option Nat) : w.grownBy w row := grown_of_below (Below.refl _ _) row
theorem grown_drew {w w1 : World} {row : Option Nat} (h : w.grownBy w1 row) : w.grownBy w1.drew row := ⟨h.os, h.tape, h.output, h.size, h.block⟩
theorem grown_drewN {w w1 : World} {row : Option Nat} (h : w.grownBy w1 row) (n : Nat) : w.grownBy (w1.drewN n) row := ⟨h.os, h.tape, h.output, h.size, h.block⟩
theorem grown_cell {w w1 : World} {g k i : Nat} {v : Value} (h : w.grownBy w1 (some g)) (hne : k ≠ g) (hc : w.cell? ⟨k, i, none⟩ = some v) : w1.cell? ⟨k, i, none⟩ = some v :=
  (World.cell?_of_block (a := ⟨k, i, none⟩) (h.block k (World.block_lt_of_cell? w _ hc) (fun e => hne (Option.some.inj e)))).trans hc
theorem grown_free {w w1 : World} {g k i : Nat} (h : w.grownBy w1 (some g)) (hne : k ≠ g) (hk : k < w.heap.size) (hc : w.frozen? ⟨k, i, none⟩ = false) : w1.frozen? ⟨k, i, none⟩ = false := by
  unfold World.frozen? at hc ⊢
  rw [h.block k hk (fun e => hne (Option.some.inj e))]
  exact hc
/-- A literal's cells. -/
theorem lit_cells (w : World) (t : TypeId) (cs : List Int) {lo hi : Int} (h : ∀ y ∈ cs, lo ≤ y ∧ y ≤ hi) : ∀ i, i < cs.length → ∃ y : Int, (w.alloc (.cells (cs.map (Value.int .i64)).toArray t)).cell? ⟨w.heap.size, i, none⟩ = some (.int .i64 y) ∧ lo ≤ y ∧ y ≤ hi := by
  intro i hi'
  refine ⟨cs[i], boxed_at rfl ?_, h _ (List.getElem_mem hi')⟩
  simp [hi']

theorem src_one (g : Nat) (b m : Int) (w : World) (h : SrcAt w g b) (hb : b ≤ 999999990) (hm : 1 ≤ m ∧ m ≤ 65536) : Calls Tryz.prog 28 #[.pointer (some ⟨g, 0, none⟩), .int .i64 m] w fun e w' => ∃ B : Bool, e = .returned (.bool B) ∧ w.grownBy w' (some g) ∧ SrcAt w' g (b + 2) := by
  have HP := Lib.hid (src_pick g b m w h hb hm)
  clear h
  go_enter Tryz.func28, Tryz.ntmps28
  go_wp2_with (go_at_call 15; refine HP.out.mono ?_; rintro e w1 ⟨x, rfl, hx, hg1, hs1⟩)
  all_goals
    go_ret
    exact ⟨_, rfl, hg1, hs1⟩

theorem src_among (g k n cap : Nat) (b lo hi : Int) (w : World) (h : SrcAt w g b) (hb : b ≤ 999999990) (hn : 1 ≤ n ∧ n ≤ 65536) (hk : k ≠ g) (hc : ∀ i, i < n → ∃ y : Int, w.cell? ⟨k, i, none⟩ = some (.int .i64 y) ∧ lo ≤ y ∧ y ≤ hi) :
    Calls Tryz.prog 16 #[.pointer (some ⟨g, 0, none⟩), .slice (some ⟨k, 0, none⟩) n cap] w fun e w' => ∃ x : Int, e = .returned (.int .i64 x) ∧ (lo ≤ x ∧ x ≤ hi) ∧ w.grownBy w' (some g) ∧ SrcAt w' g (b + 2) := by
  have HP := Lib.hid (src_pick g b n w h hb (by omega))
  have HC : Hid (∀ (x : Int), 0 ≤ x → x < n → ∀ w', w.grownBy w' (some g) → ∃ (i : Nat) (y : Int), x = i ∧ i < n ∧ w'.cell? ⟨k, i, none⟩ = some (.int .i64 y) ∧ lo ≤ y ∧ y ≤ hi) := fun x h0 h1 w' hg => by
    obtain ⟨y, q1, q2⟩ := hc x.toNat (by omega)
    exact ⟨x.toNat, y, by omega, by omega, grown_cell hg hk q1, q2⟩
  clear h hc
  go_enter Tryz.func16, Tryz.ntmps16
  go_wp2_with (go_at_call 15; refine HP.out.mono ?_; rintro e w1 ⟨x, rfl, hx, hg1, hs1⟩; obtain ⟨i, y, rfl, hi, hcy, hy0, hy1⟩ := HC.out x hx.1 hx.2 _ hg1)
  go_ret
  exact ⟨y, rfl, ⟨hy0, hy1⟩, hg1, hs1⟩

end Go.Proofs.YtjmklkhdemolmaaGreatDoor

/- A struct of four cells in a box: made, carried on, read. No program's function. -/
namespace Go.Proofs.YtjmklkhdemolmaaGreatDoor
open Go.RowKit Go.Deep
set_option linter.unusedVariables false
set_option maxRecDepth 100000

theorem box_free4 {w : World} {cs : Array Value} {t : TypeId} {k : Nat} (i : Nat) (hk : w.heap.size = k) : (w.alloc (.cells cs t)).frozen? ⟨k, i, none⟩ = false := World.frozen?_alloc_at cs t k i hk.symm
theorem box_keep4 {w w1 : World} {b o : Nat} (hb : Below w.heap.size w w1) (hl : b < w.heap.size) (h : w.frozen? ⟨b, o, none⟩ = false) : w1.frozen? ⟨b, o, none⟩ = false := by
  rw [hb.frozen (p := ⟨b, o, none⟩) hl]; exact h
/-- Block g holds a, b, c, d and may be written. -/
def BoxAt (w : World) (g : Nat) (a b c d : Value) : Prop := g < w.heap.size ∧ w.cell? ⟨g, 0, none⟩ = some a ∧ w.cell? ⟨g, 1, none⟩ = some b ∧ w.cell? ⟨g, 2, none⟩ = some c ∧ w.cell? ⟨g, 3, none⟩ = some d ∧ ∀ i, w.frozen? ⟨g, i, none⟩ = false
theorem BoxAt.new (w : World) (a b c d : Value) (t : TypeId) : BoxAt (w.alloc (.cells #[a, b, c, d] t)) w.heap.size a b c d :=
  ⟨by simp, boxed_at rfl rfl, boxed_at rfl rfl, boxed_at rfl rfl, boxed_at rfl rfl, fun i => box_free4 i rfl⟩
theorem BoxAt.kept {w w1 : World} {g : Nat} {a b c d : Value} (h : BoxAt w g a b c d) (hb : Below w.heap.size w w1) : BoxAt w1 g a b c d :=
  ⟨Nat.lt_of_lt_of_le h.1 hb.size, cell_keep hb h.2.1, cell_keep hb h.2.2.1, cell_keep hb h.2.2.2.1, cell_keep hb h.2.2.2.2.1, fun i => box_keep4 hb h.1 (h.2.2.2.2.2 i)⟩
theorem BoxAt.drew {w : World} {g : Nat} {a b c d : Value} (h : BoxAt w g a b c d) : BoxAt w.drew g a b c d := h.kept (Below.refl _ _).drew

end Go.Proofs.YtjmklkhdemolmaaGreatDoor

/- A drawn basin and what is drawn beside it. Nothing is said of the numbers but their bounds. -/
namespace Go.Proofs.YtjmklkhdemolmaaGreatDoor
open Go.RowKit Go.Deep
set_option linter.unusedVariables false
set_option maxRecDepth 100000

theorem grown_store {w w1 : World} {row : Option Nat} (h : w.grownBy w1 row) {k : Nat} (hk : w.heap.size ≤ k) (i : Nat) (v : Value) : w.grownBy (w1.setCell ⟨k, i, none⟩ v) row :=
  ⟨h.os, h.tape, h.output, by simpa [World.setCell] using h.size, fun j hj hne => (Below.heap_setCell w1 ⟨k, i, none⟩ v j (by show j ≠ k; omega)).trans (h.block j hj hne)⟩
theorem SrcAt.store {w : World} {g : Nat} {b : Int} (h : SrcAt w g b) {k : Nat} (hk : g < k) (i : Nat) (v : Value) : SrcAt (w.setCell ⟨k, i, none⟩ v) g b :=
  h.far (row := some k) (grown_set (grown_of_below (Below.refl _ _) (some k)) i v) (fun r e => by have e2 : k = r := Option.some.inj e; omega)
theorem BoxAt.grown {w w1 : World} {g k : Nat} {a b c d : Value} (h : BoxAt w k a b c d) (hg : w.grownBy w1 (some g)) (hne : k ≠ g) : BoxAt w1 k a b c d :=
  ⟨Nat.lt_of_lt_of_le h.1 hg.size, grown_cell hg hne h.2.1, grown_cell hg hne h.2.2.1, grown_cell hg hne h.2.2.2.1, grown_cell hg hne h.2.2.2.2.1, fun i => grown_free hg hne h.1 (h.2.2.2.2.2 i)⟩
theorem BoxAt.other {w : World} {k k' : Nat} {a b c d : Value} (h : BoxAt w k a b c d) (hne : k' ≠ k) (j : Nat) (v : Value) : BoxAt (w.setCell ⟨k', j, none⟩ v) k a b c d := by
  have ho : ∀ i u, w.cell? ⟨k, i, none⟩ = some u → (w.setCell ⟨k', j, none⟩ v).cell? ⟨k, i, none⟩ = some u := fun i u hu => by
    rw [World.cell?_setCell_other _ _ _ _ (fun e => hne (congrArg (fun a : Addr => a.block) e))]; exact hu
  exact ⟨by simp; exact h.1, ho _ _ h.2.1, ho _ _ h.2.2.1, ho _ _ h.2.2.2.1, ho _ _ h.2.2.2.2.1, fun i => by rw [World.frozen?_setCell]; exact h.2.2.2.2.2 i⟩
theorem BoxAt.set0 {w : World} {k : Nat} {a b c d : Value} (h : BoxAt w k a b c d) (v : Value) : BoxAt (w.setCell ⟨k, 0, none⟩ v) k v b c d := by
  have ho : ∀ i u, i ≠ 0 → w.cell? ⟨k, i, none⟩ = some u → (w.setCell ⟨k, 0, none⟩ v).cell? ⟨k, i, none⟩ = some u := fun i u hi hu => by
    rw [World.cell?_setCell_other _ _ _ _ (by simp)]; exact hu
  exact ⟨by simp; exact h.1, World.cell?_setCell_same _ _ _ h.2.1, ho _ _ (by omega) h.2.2.1, ho _ _ (by omega) h.2.2.2.1, ho _ _ (by omega) h.2.2.2.2.1, fun i => by rw [World.frozen?_setCell]; exact h.2.2.2.2.2 i⟩
theorem BoxAt.set1 {w : World} {k : Nat} {a b c d : Value} (h : BoxAt w k a b c d) (v : Value) : BoxAt (w.setCell ⟨k, 1, none⟩ v) k a v c d := by
  have ho : ∀ i u, i ≠ 1 → w.cell? ⟨k, i, none⟩ = some u → (w.setCell ⟨k, 1, none⟩ v).cell? ⟨k, i, none⟩ = some u := fun i u hi hu => by
    rw [World.cell?_setCell_other _ _ _ _ (by simp)]; exact hu
  exact ⟨by simp; exact h.1, ho _ _ (by omega) h.2.1, World.cell?_setCell_same _ _ _ h.2.2.1, ho _ _ (by omega) h.2.2.2.1, ho _ _ (by omega) h.2.2.2.2.1, fun i => by rw [World.frozen?_setCell]; exact h.2.2.2.2.2 i⟩
theorem BoxAt.set2 {w : World} {k : Nat} {a b c d : Value} (h : BoxAt w k a b c d) (v : Value) : BoxAt (w.setCell ⟨k, 2, none⟩ v) k a b v d := by
  have ho : ∀ i u, i ≠ 2 → w.cell? ⟨k, i, none⟩ = some u → (w.setCell ⟨k, 2, none⟩ v).cell? ⟨k, i, none⟩ = some u := fun i u hi hu => by
    rw [World.cell?_setCell_other _ _ _ _ (by simp)]; exact hu
  exact ⟨by simp; exact h.1, ho _ _ (by omega) h.2.1, ho _ _ (by omega) h.2.2.1, World.cell?_setCell_same _ _ _ h.2.2.2.1, ho _ _ (by omega) h.2.2.2.2.1, fun i => by rw [World.frozen?_setCell]; exact h.2.2.2.2.2 i⟩
theorem BoxAt.set3 {w : World} {k : Nat} {a b c d : Value} (h : BoxAt w k a b c d) (v : Value) : BoxAt (w.setCell ⟨k, 3, none⟩ v) k a b c v := by
  have ho : ∀ i u, i ≠ 3 → w.cell? ⟨k, i, none⟩ = some u → (w.setCell ⟨k, 3, none⟩ v).cell? ⟨k, i, none⟩ = some u := fun i u hi hu => by
    rw [World.cell?_setCell_other _ _ _ _ (by simp)]; exact hu
  exact ⟨by simp; exact h.1, ho _ _ (by omega) h.2.1, ho _ _ (by omega) h.2.2.1, ho _ _ (by omega) h.2.2.2.1, World.cell?_setCell_same _ _ _ h.2.2.2.2.1, fun i => by rw [World.frozen?_setCell]; exact h.2.2.2.2.2 i⟩

end Go.Proofs.YtjmklkhdemolmaaGreatDoor

/- Contracts on rides and slices of rides. -/
namespace Go.Proofs.YtjmklkhdemolmaaGreatDoor
open Go.RowKit Go.Deep

/-- Rides as cells: leaves, takes. -/
def rc (lv tk : Nat → Int) : Nat → Value := fun j => .int .i64 (if j % 2 = 0 then lv (j / 2) else tk (j / 2))
theorem rc0 (lv tk : Nat → Int) (k : Nat) : rc lv tk (k * 2) = .int .i64 (lv k) := by unfold rc; rw [if_pos (by omega), show k * 2 / 2 = k by omega]
theorem rc1 (lv tk : Nat → Int) (k : Nat) : rc lv tk (k * 2 + 1) = .int .i64 (tk k) := by unfold rc; rw [if_neg (by omega), show (k * 2 + 1) / 2 = k by omega]
theorem rcells {w : World} {g off n : Nat} {lv tk : Nat → Int} (h : Row w g off (n * 2) (rc lv tk)) {k : Nat} (hk : k < n) :
    w.cell? ⟨g, off + k * 2, none⟩ = some (.int .i64 (lv k)) ∧ w.cell? ⟨g, off + k * 2 + 1, none⟩ = some (.int .i64 (tk k)) := by
  refine ⟨?_, ?_⟩
  · rw [h.cell (i := k * 2) (by omega), rc0]
  · have := h.cell (i := k * 2 + 1) (by omega)
    rw [rc1] at this
    exact this

end Go.Proofs.YtjmklkhdemolmaaGreatDoor

/- Timetables: valid ones, as the reference and the program ask it. -/
namespace Go.Proofs.YtjmklkhdemolmaaGreatDoor
open Go.RowKit Go.Deep

def vRide (l t : Int) : Bool := inB l 0 1440 && inB t 1 1440 && decide (l + t ≤ 1440)
theorem vRide_out {l t : Int} (h : vRide l t = true) : 0 ≤ l ∧ l ≤ 1440 ∧ 1 ≤ t ∧ t ≤ 1440 ∧ l + t ≤ 1440 := by
  simp only [vRide, Bool.and_eq_true, inB_iff, decide_eq_true_eq] at h; omega
/-- Ride k is valid, and leaves not before the one ahead of it has ended. -/
def rideAt (lv tk : Nat → Int) (k : Nat) : Bool := vRide (lv k) (tk k) && (decide (k = 0) || decide (lv (k - 1) + tk (k - 1) ≤ lv k))
def vTable (n : Nat) (lv tk : Nat → Int) : Bool := allTo (rideAt lv tk) n && decide (n ≤ 24)
theorem vTable_out {n : Nat} {lv tk : Nat → Int} (h : vTable n lv tk = true) : n ≤ 24 ∧ ∀ i, i < n → rideAt lv tk i = true := by
  simp only [vTable, Bool.and_eq_true, decide_eq_true_eq] at h
  exact ⟨h.2, allTo_out h.1⟩
theorem rideAt_out {lv tk : Nat → Int} {k : Nat} (h : rideAt lv tk k = true) : vRide (lv k) (tk k) = true ∧ (k ≠ 0 → lv (k - 1) + tk (k - 1) ≤ lv k) := by
  simp only [rideAt, Bool.and_eq_true, Bool.or_eq_true, decide_eq_true_eq] at h
  exact ⟨h.1, fun h0 => h.2.resolve_left h0⟩
/-- What a round meets at ride k, all before it being right. -/
theorem rideAt_cases {lv tk : Nat → Int} {k : Nat} (hno : ∀ i, i < k → rideAt lv tk i = true) :
    (vRide (lv k) (tk k) = false ∧ Hid (rideAt lv tk k = false)) ∨
    (vRide (lv k) (tk k) = true ∧ k = 0 ∧ Hid (rideAt lv tk k = true)) ∨
    (vRide (lv k) (tk k) = true ∧ 0 < k ∧ vRide (lv (k - 1)) (tk (k - 1)) = true ∧ lv (k - 1) + tk (k - 1) ≤ lv k ∧ Hid (rideAt lv tk k = true)) ∨
    (vRide (lv k) (tk k) = true ∧ 0 < k ∧ vRide (lv (k - 1)) (tk (k - 1)) = true ∧ lv k < lv (k - 1) + tk (k - 1) ∧ Hid (rideAt lv tk k = false)) := by
  cases hv : vRide (lv k) (tk k)
  · exact .inl ⟨rfl, by show rideAt lv tk k = false; unfold rideAt; rw [hv]; rfl⟩
  · by_cases h0 : k = 0
    · exact .inr (.inl ⟨rfl, h0, by show rideAt lv tk k = true; unfold rideAt; rw [hv, h0]; rfl⟩)
    · have hp := (rideAt_out (hno (k - 1) (by omega))).1
      by_cases h : lv (k - 1) + tk (k - 1) ≤ lv k
      · exact .inr (.inr (.inl ⟨rfl, by omega, hp, h, by show rideAt lv tk k = true; unfold rideAt; rw [hv]; simp [h]⟩))
      · exact .inr (.inr (.inr ⟨rfl, by omega, hp, by omega, by show rideAt lv tk k = false; unfold rideAt; rw [hv]; simp [h0]; omega⟩))
theorem vTable_no {n k : Nat} {lv tk : Nat → Int} (hk : k < n) (h : rideAt lv tk k = false) : vTable n lv tk = false := by
  unfold vTable; rw [allTo_no hk h]; rfl
theorem vTable_end {n : Nat} {lv tk : Nat → Int} (h : ∀ i, i < n → rideAt lv tk i = true) : vTable n lv tk = decide (n ≤ 24) := by
  unfold vTable; rw [allTo_yes h]; rfl
attribute [irreducible] vTable rideAt vRide

theorem vRide_cases (l t : Int) : (inB l 0 1440 = false ∧ Hid (vRide l t = false)) ∨ (inB l 0 1440 = true ∧ inB t 1 1440 = false ∧ Hid (vRide l t = false)) ∨
    (inB l 0 1440 = true ∧ inB t 1 1440 = true ∧ (0 ≤ l ∧ l ≤ 1440 ∧ 1 ≤ t ∧ t ≤ 1440) ∧ Hid (vRide l t = decide (l + t ≤ 1440))) := by
  have key : vRide l t = (inB l 0 1440 && inB t 1 1440 && decide (l + t ≤ 1440)) := by unfold vRide; rfl
  cases h1 : inB l 0 1440
  · exact .inl ⟨rfl, by rw [h1] at key; exact key⟩
  · cases h2 : inB t 1 1440
    · exact .inr (.inl ⟨rfl, rfl, by rw [h1, h2] at key; exact key⟩)
    · have := inB_out h1; have := inB_out h2
      exact .inr (.inr ⟨rfl, rfl, by omega, by rw [h1, h2] at key; show vRide l t = _; simpa using key⟩)

end Go.Proofs.YtjmklkhdemolmaaGreatDoor

/- Whether an input is too long for the laws of the second kind. -/
namespace Go.Proofs.YtjmklkhdemolmaaGreatDoor
open Go.RowKit Go.Deep
set_option linter.unusedVariables false
set_option maxRecDepth 100000

theorem l_b10Long (u : Value) (n : Nat) (W : World) (h : ByS W u n) : Calls Tryz.prog 4 #[u] W fun e W' => e = .returned (.bool (!decide (n ≤ 1048576))) ∧ W = W' := by
  obtain ⟨h1, ao, cap, rfl, -⟩ := h
  by_cases a : n ≤ 1048576
  · have hd : decide ((1048576 : Int) < n) = false := decide_eq_false (by omega)
    rw [decide_eq_true a]
    go_enter Tryz.func4, Tryz.ntmps4
    go_wp2
    go_ret
    exact ⟨by first | rfl | (simp [*]; done) | (simp [*]; omega), rfl⟩
  · have hd : decide ((1048576 : Int) < n) = true := decide_eq_true (by omega)
    rw [decide_eq_false a]
    go_enter Tryz.func4, Tryz.ntmps4
    go_wp2
    go_ret
    exact ⟨by first | rfl | (simp [*]; done) | (simp [*]; omega), rfl⟩

end Go.Proofs.YtjmklkhdemolmaaGreatDoor
