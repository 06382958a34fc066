/- Slices that are read: what a walk needs to know of them, and how that is carried from world to world. No program. -/
import Derived.Test.YtmgbbfbalmlpiaaGreatDoorFrame
import Derived.Deep.OwnRows
import Derived.Lib.QuietBelow
namespace Go.Proofs.YtmgbbfbalmlpiaaGreatDoor
open Go.RowKit Go.Deep

/-- From cell 'off' of block g on there are n cells, cell i holding 'f i'. -/
def Row (w : World) (g off n : Nat) (f : Nat → Value) : Prop := g < w.heap.size ∧ ∀ i, i < n → w.cell? ⟨g, off + i, none⟩ = some (f i)
/-- v is a slice of n elements of k cells each, cell i holding 'f i'. -/
def Sl (w : World) (v : Value) (k n : Nat) (f : Nat → Value) : Prop :=
  n ≤ 17592186044416 ∧ ∃ ao cap, v = .slice ao n cap ∧ (n = 0 ∨ ∃ g off, ao = some ⟨g, off, none⟩ ∧ Row w g off (n * k) f)

theorem Row.cell {w : World} {g off n : Nat} {f : Nat → Value} (h : Row w g off n f) {i : Nat} (hi : i < n) : w.cell? ⟨g, off + i, none⟩ = some (f i) := h.2 i hi
theorem Row.kept {w w' : World} {g off n : Nat} {f : Nat → Value} (h : Row w g off n f) (hb : Below w.heap.size w w') : Row w' g off n f :=
  ⟨Nat.lt_of_lt_of_le h.1 hb.size, fun i hi => (hb.cell (p := ⟨g, off + i, none⟩) h.1).trans (h.2 i hi)⟩
theorem Row.far {w w' : World} {g off n : Nat} {f : Nat → Value} {row : Option Nat} (h : Row w g off n f) (hg : w.grownBy w' row) (hne : some g ≠ row) : Row w' g off n f :=
  ⟨Nat.lt_of_lt_of_le h.1 hg.size, fun i hi => (World.cell?_of_block (a := ⟨g, off + i, none⟩) (hg.block g h.1 hne)).trans (h.2 i hi)⟩
theorem Row.congr {w : World} {g off n : Nat} {f f' : Nat → Value} (h : Row w g off n f) (e : ∀ i, i < n → f i = f' i) : Row w g off n f' :=
  ⟨h.1, fun i hi => by rw [← e i hi]; exact h.2 i hi⟩
theorem Row.sub {w : World} {g off n : Nat} {f : Nat → Value} (h : Row w g off n f) {a m : Nat} (hm : a + m ≤ n) : Row w g (off + a) m (fun i => f (a + i)) :=
  ⟨h.1, fun i hi => by rw [Nat.add_assoc]; exact h.2 (a + i) (by omega)⟩
theorem Row.of_rowIs {w : World} {g n : Nat} {t : TypeId} {f : Nat → Value} (h : w.rowIs g t n f) : Row w g 0 n f :=
  ⟨h.lt, fun i hi => by rw [Nat.zero_add]; exact h.cell hi⟩
theorem Row.of_own {w : World} {base g n cap k : Nat} {e : TypeId} {xs : List Value} (h : w.ownsRow base e k (.slice (some ⟨g, 0, none⟩) n cap) n xs) : Row w g 0 (n * k) (fun j => xs.getD j undef) := by
  have hlt := (h.lt g rfl).2
  refine ⟨hlt, fun i hi => ?_⟩
  rw [Nat.zero_add, h.cellAt i hi]
  have := h.1
  simp [List.getD, List.getElem?_eq_getElem (show i < xs.length by omega)]

theorem Sl.kept {w w' : World} {v : Value} {k n : Nat} {f : Nat → Value} (h : Sl w v k n f) (hb : Below w.heap.size w w') : Sl w' v k n f := by
  obtain ⟨hn, ao, cap, hv, h⟩ := h
  refine ⟨hn, ao, cap, hv, ?_⟩
  rcases h with h | ⟨g, off, ha, hr⟩
  · exact .inl h
  · exact .inr ⟨g, off, ha, hr.kept hb⟩
theorem Sl.far {w w' : World} {v : Value} {k n : Nat} {f : Nat → Value} {row : Option Nat} (h : Sl w v k n f) (hg : w.grownBy w' row) (hne : ∀ b, v.ownBlock = some b → some b ≠ row) : Sl w' v k n f := by
  obtain ⟨hn, ao, cap, rfl, h⟩ := h
  refine ⟨hn, ao, cap, rfl, ?_⟩
  rcases h with h | ⟨g, off, rfl, hr⟩
  · exact .inl h
  · exact .inr ⟨g, off, rfl, hr.far hg (hne g rfl)⟩
theorem Sl.congr {w : World} {v : Value} {k n : Nat} {f f' : Nat → Value} (h : Sl w v k n f) (e : ∀ i, i < n * k → f i = f' i) : Sl w v k n f' := by
  obtain ⟨hn, ao, cap, hv, h⟩ := h
  refine ⟨hn, ao, cap, hv, ?_⟩
  rcases h with h | ⟨g, off, ha, hr⟩
  · exact .inl h
  · exact .inr ⟨g, off, ha, hr.congr e⟩
theorem Sl.of_row {w : World} {g off n cap k : Nat} {f : Nat → Value} (hn : n ≤ 17592186044416) (h : Row w g off (n * k) f) : Sl w (.slice (some ⟨g, off, none⟩) n cap) k n f :=
  ⟨hn, _, _, rfl, .inr ⟨g, off, rfl, h⟩⟩
theorem Sl.of_own {w : World} {base n k : Nat} {e : TypeId} {v : Value} {xs : List Value} (hn : n ≤ 17592186044416) (h : w.ownsRow base e k v n xs) : Sl w v k n (fun j => xs.getD j undef) := by
  rcases h.2 with ⟨rfl, rfl⟩ | ⟨g, cap, cur, rfl, _⟩
  · exact ⟨by omega, none, 0, rfl, .inl rfl⟩
  · exact ⟨hn, _, _, rfl, .inr ⟨g, 0, rfl, Row.of_own h⟩⟩

theorem grown_of_below {w w' : World} (h : Below w.heap.size w w') (row : Option Nat) : w.grownBy w' row := ⟨h.os, h.tape, h.output, h.size, fun i hi _ => h.block i hi⟩
theorem below_of_grown {w w' : World} {row : Option Nat} {B : Nat} (h : w.grownBy w' row) (hB : B ≤ w.heap.size) (hr : ∀ k, row = some k → B ≤ k) : Below B w w' :=
  (Below.refl B w).grown h hB hr

/-! ### Slices that may be written -/
/-- The row holds f below k, and F from k on. -/
def over (k : Nat) (f F : Nat → Value) : Nat → Value := fun j => if j < k then f j else F j
theorem over_zero (f F : Nat → Value) (j : Nat) : over 0 f F j = F j := by simp [over]
theorem over_lt {k : Nat} {f F : Nat → Value} {j : Nat} (h : j < k) : over k f F j = f j := by simp [over, h]
theorem over_set {w : World} {b : Nat} {t : TypeId} {N k : Nat} {f F : Nat → Value} {u : Value} (h : w.rowIs b t N (over k f F)) (hu : u = f k) : (w.setCell ⟨b, k, none⟩ u).rowIs b t N (over (k + 1) f F) :=
  (h.set k u).congr fun i _ => by
    simp only [over, hu]
    by_cases e : i = k
    · subst e; simp
    · by_cases e2 : i < k
      · simp [e, e2, show i < k + 1 by omega]
      · simp [e, e2, show ¬ i < k + 1 by omega]

/-- v is a slice of n elements of k cells, nil or in a row of one's own. -/
def Mine (w : World) (v : Value) (k n : Nat) : Prop :=
  n ≤ 17592186044416 ∧ ∃ ao cap, v = .slice ao n cap ∧ (n = 0 ∨ ∃ g t N F, ao = some ⟨g, 0, none⟩ ∧ w.rowIs g t N F ∧ n * k ≤ N)
theorem Mine.kept {w w' : World} {v : Value} {k n : Nat} (h : Mine w v k n) (hb : Below w.heap.size w w') : Mine w' v k n := by
  obtain ⟨hn, ao, cap, rfl, h⟩ := h
  refine ⟨hn, ao, cap, rfl, ?_⟩
  rcases h with h | ⟨g, t, N, F, rfl, hr, hN⟩
  · exact .inl h
  · exact .inr ⟨g, t, N, F, rfl, hr.of_block (hb.block g hr.lt), hN⟩
theorem Mine.far {w w' : World} {v : Value} {k n : Nat} {row : Option Nat} (h : Mine w v k n) (hg : w.grownBy w' row) (hne : ∀ b, v.ownBlock = some b → some b ≠ row) : Mine w' v k n := by
  obtain ⟨hn, ao, cap, rfl, h⟩ := h
  refine ⟨hn, ao, cap, rfl, ?_⟩
  rcases h with h | ⟨g, t, N, F, rfl, hr, hN⟩
  · exact .inl h
  · exact .inr ⟨g, t, N, F, rfl, hr.of_block (hg.block g hr.lt (hne g rfl)), hN⟩
theorem Mine.of_row {w : World} {g n cap k N : Nat} {t : TypeId} {F : Nat → Value} (hn : n ≤ 17592186044416) (h : w.rowIs g t N F) (hN : n * k ≤ N) : Mine w (.slice (some ⟨g, 0, none⟩) n cap) k n :=
  ⟨hn, _, _, rfl, .inr ⟨g, t, N, F, rfl, h, hN⟩⟩
theorem Mine.of_own {w : World} {base n k : Nat} {e : TypeId} {v : Value} {xs : List Value} (hn : n ≤ 17592186044416) (h : w.ownsRow base e k v n xs) : Mine w v k n := by
  rcases h.2 with ⟨rfl, rfl⟩ | ⟨g, cap, cur, rfl, _, hh, hnc, _, hcs, _⟩
  · exact ⟨by omega, none, 0, rfl, .inl rfl⟩
  · exact ⟨hn, _, _, rfl, .inr ⟨g, e, cap * k, fun j => cur.getD j undef, rfl, ⟨cur, hh, hcs, fun i hi => by rw [← hcs] at hi; simp [Array.getD, hi]⟩, Nat.mul_le_mul_right _ hnc⟩⟩
/-- The marks q, q + 1, .. -/
def marks (q : Int) : Nat → Value := fun j => .int .i64 (q + j)

theorem grown_set {W wr : World} {g : Nat} (h : W.grownBy wr (some g)) (j : Nat) (u : Value) : W.grownBy (wr.setCell ⟨g, j, none⟩ u) (some g) :=
  ⟨h.os, h.tape, h.output, by simpa [World.setCell] using h.size, fun i hi hne => (Below.heap_setCell wr ⟨g, j, none⟩ u i (fun e => hne (by rw [e]))).trans (h.block i hi hne)⟩

/-! ### Slices that are appended to -/
def cellsN (f : Nat → Value) (m : Nat) : List Value := (List.range m).map f
theorem cellsN_getD {f : Nat → Value} {m j : Nat} (h : j < m) : (cellsN f m).getD j undef = f j := by simp [cellsN, List.getD, List.getElem?_range h]
theorem cellsN_succ (f : Nat → Value) (m : Nat) : cellsN f (m + 1) = cellsN f m ++ [f m] := by simp [cellsN, List.range_succ]
theorem cellsN_congr {f f' : Nat → Value} {m : Nat} (h : ∀ i, i < m → f i = f' i) : cellsN f m = cellsN f' m := by
  apply List.map_congr_left
  intro i hi
  exact h i (by simpa using hi)
/-- v is nil or in a block from B on, and holds n elements of k cells: f. -/
def Out (w : World) (B : Nat) (e : TypeId) (k : Nat) (v : Value) (n : Nat) (f : Nat → Value) : Prop := w.ownsRow B e k v n (cellsN f (n * k))
theorem Out.row {w : World} {B k n : Nat} {e : TypeId} {v : Value} {f : Nat → Value} (h : Out w B e k v n f) : w.ownsRow B e k v n (cellsN f (n * k)) := h
theorem Out.nil (w : World) (B : Nat) (e : TypeId) (k : Nat) (f : Nat → Value) : Out w B e k (.slice none 0 0) 0 f := by
  unfold Out; rw [Nat.zero_mul]; exact World.ownsRow_nil w B e k
theorem Out.empty (w : World) (e : TypeId) (k : Nat) (f : Nat → Value) (B : Nat) (hB : B ≤ w.heap.size) : Out (w.alloc (.cells #[] e)) B e k (.slice (some ⟨w.heap.size, 0, none⟩) 0 0) 0 f := by
  unfold Out; rw [Nat.zero_mul]; exact World.ownsRow_made w #[] 0 hB (by omega) (by simp)
theorem Out.sl {w : World} {B k n : Nat} {e : TypeId} {v : Value} {f : Nat → Value} (h : Out w B e k v n f) (hn : n ≤ 17592186044416) : Sl w v k n f :=
  (Sl.of_own hn h).congr fun _ hi => cellsN_getD hi
theorem Out.mine {w : World} {B k n : Nat} {e : TypeId} {v : Value} {f : Nat → Value} (h : Out w B e k v n f) (hn : n ≤ 17592186044416) : Mine w v k n := Mine.of_own hn h
theorem Out.base {w : World} {B k n : Nat} {e : TypeId} {v : Value} {f : Nat → Value} (h : Out w B e k v n f) : ∀ b, v.ownBlock = some b → B ≤ b ∧ b < w.heap.size := World.ownsRow.lt h
theorem Out.kept {w w' : World} {B k n : Nat} {e : TypeId} {v : Value} {f : Nat → Value} (h : Out w B e k v n f) (hb : Below w.heap.size w w') : Out w' B e k v n f :=
  World.ownsRow.kept (row := none) h (grown_of_below hb none) (by cases hv : v.ownBlock <;> simp)
theorem Out.snoc1 {w : World} {B n : Nat} {e : TypeId} {v : Value} {f : Nat → Value} {u : Value} (h : w.ownsRow B e 1 v (n + 1) (cellsN f (n * 1) ++ [u])) (hu : u = f n) : Out w B e 1 v (n + 1) f := by
  unfold Out; rw [show (n + 1) * 1 = n + 1 by omega, cellsN_succ, ← hu]; rw [Nat.mul_one] at h; exact h
theorem Out.snoc2 {w : World} {B n : Nat} {e : TypeId} {v : Value} {f : Nat → Value} {u x : Value} (h : w.ownsRow B e 2 v (n + 1) (cellsN f (n * 2) ++ [u, x])) (hu : u = f (n * 2)) (hx : x = f (n * 2 + 1)) : Out w B e 2 v (n + 1) f := by
  unfold Out; rw [show (n + 1) * 2 = n * 2 + 1 + 1 by omega, cellsN_succ, cellsN_succ, ← hu, ← hx, List.append_assoc]; exact h
theorem Out.congr {w : World} {B k n : Nat} {e : TypeId} {v : Value} {f f' : Nat → Value} (h : Out w B e k v n f) (e' : ∀ i, i < n * k → f i = f' i) : Out w B e k v n f' := by
  unfold Out; rw [← cellsN_congr e']; exact h
/-- The one new element that 'append(out, x)' lays first. -/
theorem laid_new {w : World} {cs : List Value} {t : TypeId} : ∀ j u, cs[j]? = some u → (w.alloc (.cells cs.toArray t)).cell? ((⟨w.heap.size, 0, none⟩ : Addr).add j) = some u := by
  intro j u hu
  have e : (⟨w.heap.size, 0, none⟩ : Addr).add j = ⟨w.heap.size, j, none⟩ := by unfold Addr.add; split <;> simp_all
  rw [e, cell_of_row (w.alloc (.cells cs.toArray t)) w.heap.size j cs.toArray t (0, 0) (heap_alloc_new w _)]
  simpa using hu
theorem below_of_append {W wr w1 : World} {x : Obj} {v : Value} {n k : Nat} {e : TypeId} {xs : List Value} (hb : Below W.heap.size W wr) (ho : wr.ownsRow W.heap.size e k v n xs) (hg : (wr.alloc x).grownBy w1 v.ownBlock) : Below W.heap.size W w1 :=
  (kept_alloc hb x).grown hg (by have := hb.size; simp; omega) (fun b hbk => (ho.lt b hbk).1)

/-! ### Regions that draw their order and whose callees lay blocks -/
open Go.Sort in
theorem boxed {W : World} {cs : Array Value} {t : TypeId} (i : Nat) (v : Value) (h : cs[i]? = some v) (d : Nat) (os : Array Obj) : (grow (redrawn (W.alloc (.cells cs t)) d) os).cell? ⟨W.heap.size, i, none⟩ = some v :=
  cell_regrown (by rw [World.cell?, show (W.alloc (.cells cs t)).heap[W.heap.size]? = some (.cells cs t (0, 0)) from heap_alloc_new W _]; simpa using h) d os

open Go.Sort in
theorem below_of_regrown {W w2 : World} (h : ∃ p : Regrown, w2 = grow (redrawn W p.d) p.os) : Below W.heap.size W w2 := by
  obtain ⟨p, rfl⟩ := h
  exact below_regrown _ _ _
open Go.Sort in
theorem Calls.regrown_same {P : Program} {f : FuncId} {args : Array Value} {w : World} {d : Nat} {os : Array Obj} {v : Value}
    (h : Calls P f args (grow (redrawn w d) os) fun e w' => e = .returned v ∧ grow (redrawn w d) os = w') : Calls P f args (grow (redrawn w d) os) fun e w'' => e = .returned v ∧ ∃ p : Regrown, w'' = grow (redrawn w p.d) p.os :=
  Go.Calls.regrown_of (h.mono fun _ _ ⟨he, hw⟩ => ⟨he, by rw [← hw]; exact Below.refl _ _⟩)

end Go.Proofs.YtmgbbfbalmlpiaaGreatDoor
