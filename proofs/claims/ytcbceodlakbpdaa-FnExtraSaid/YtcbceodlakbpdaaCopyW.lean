/- copy of elements of several cells into a row that is known whole, and cells of a row as a list. No program. -/
import Derived.Test.YtcbceodlakbpdaaCore
import Derived.Laws.CopyOwn
import Derived.Lib.AppendZerosOnto
namespace Go.Proofs.Ytcbceodlakbpdaa
open Go.RowKit Go.Deep

theorem run_copy_wide {P : Program} (w : World) (dT sT ty elem : TypeId) (g o dLen dCap : Nat) (a : Addr) (sLen sCap : Nat) (cur : Array Value) (t : TypeId) (k m : Nat) (cs : List Value)
    (hu : P.underlying dT = some (.slice elem)) (hs : (P.info? elem).map (·.size) = some k)
    (hg : w.heap[g]? = some (.cells cur t (0, 0))) (hm : m = Nat.min sLen dLen) (hn : cs.length = m * k)
    (hsrc : ∀ j v, cs[j]? = some v → w.cell? (a.add j) = some v) (hfit : o + cs.length ≤ cur.size) (h1 : ∀ v ∈ cs, v.oneCell' = true) :
    (Builtin.copy_ #[dT, sT] ty #[.slice (some ⟨g, o, none⟩) dLen dCap, .slice (some a) sLen sCap]).run P w =
      .ok (goInt m) (w.setRow g (splice cur.toList o cs).toArray) := by
  have hl := run_loadCells_list (P := P) w a cs hsrc
  have hst := run_storeCells_at P g o t cs 0 cur w hg (by simpa using hfit) h1
  cases hq : P.info? elem with
  | none => simp [hq] at hs
  | some i =>
    have hi : i.size = k := by simpa [hq] using hs
    rw [hn] at hl
    simp [Builtin.copy_, run_underlying hu, Builtin.lenOf, Builtin.firstCells, sizeOf, typeInfo, hq, hi, ← hm, hl, hst, splice]

theorem grown_setRow (w : World) (g : Nat) (cs : Array Value) : w.grownBy (w.setRow g cs) (some g) :=
  ⟨rfl, rfl, rfl, by simp [World.setRow], fun k _ h => setRow_other w g k cs (fun e => h (by rw [e]))⟩

/-- One step of a drawn region: a copy of wide elements into a row that is known whole. -/
theorem step_copy_wide {P : Program} {ops : Array Oper} {o : Oper} {ac : Act} {w : World} {K : Act → World → Prop} {Q : Exit → Act → World → Prop} {E : Prop}
    (hgd : o.guard = none) (d x : Operand) (dT sT : TypeId) (hop : o.op = .call { callee := .builtin .copy, args := #[d, x], argTypes := #[dT, sT] })
    (elem : TypeId) (g off : Nat) {dLen dCap : Nat} (a : Addr) {sLen sCap : Nat} (cur : Array Value) (t : TypeId) (k m : Nat) (cs : List Value)
    (hd : ac.eval d = .slice (some ⟨g, off, none⟩) dLen dCap) (hx : ac.eval x = .slice (some a) sLen sCap)
    (hu : P.underlying dT = some (.slice elem)) (hs : (P.info? elem).map (·.size) = some k)
    (hg : w.heap[g]? = some (.cells cur t (0, 0))) (hm : m = Nat.min sLen dLen) (hn : cs.length = m * k)
    (hsrc : ∀ j v, cs[j]? = some v → w.cell? (a.add j) = some v) (hfit : off + cs.length ≤ cur.size) (h1 : ∀ v ∈ cs, v.oneCell' = true)
    (hK : ∀ w', Hid (w'.heap[g]? = some (.cells (splice cur.toList off cs).toArray t (0, 0))) → Hid (w.grownBy w' (some g)) → K (ac.put o.dst (goInt m)) w') :
    if Region.wanted o (yielded ops ac.tmps) = true then Oper.wp P o ac w K Q else E := by
  rw [if_pos (by simp [Region.wanted, hgd])]
  have hrun := run_copy_wide (P := P) w dT sT o.type elem g off dLen dCap a sLen sCap cur t k m cs hu hs hg hm hn hsrc hfit h1
  unfold Oper.wp
  simp [execOp, hop, resolve, invoke, builtin, hd, hx, hrun, Result.andThen]
  exact hK _ (setRow_heap w g _ _ t _ hg) (grown_setRow _ _ _)

theorem splice_at {α : Type} (L cs : List α) (off j : Nat) (h : off + cs.length ≤ L.length) : (splice L off cs)[j]? = if off ≤ j ∧ j < off + cs.length then cs[j - off]? else L[j]? := by
  unfold splice
  by_cases h1 : j < off
  · rw [List.getElem?_append_left (by simp; omega), List.getElem?_take, if_pos h1, if_neg (by omega)]
  · rw [List.getElem?_append_right (by simp; omega)]
    have e : (L.take off).length = off := by simp; omega
    rw [e]
    by_cases h2 : j < off + cs.length
    · rw [List.getElem?_append_left (by omega), if_pos (by omega)]
    · rw [List.getElem?_append_right (by omega), List.getElem?_drop, if_neg (by omega)]
      congr 1
      omega

theorem addr_lit (b o j : Nat) : (⟨b, o, none⟩ : Addr).add j = ⟨b, o + j, none⟩ := by unfold Addr.add; split <;> simp_all

theorem cellsN_length (f : Nat → Value) (m : Nat) : (cellsN f m).length = m := by simp [cellsN]
theorem cellsN_at {f : Nat → Value} {m j : Nat} {u : Value} (h : (cellsN f m)[j]? = some u) : j < m ∧ f j = u := by
  have hj : j < m := by have := (List.getElem?_eq_some_iff.1 h).1; rwa [cellsN_length] at this
  refine ⟨hj, ?_⟩
  simpa [cellsN, List.getElem?_range hj] using h
theorem cellsN_get {f : Nat → Value} {m j : Nat} (h : j < m) : (cellsN f m)[j]? = some (f j) := by simp [cellsN, List.getElem?_range h]
/-- The cells of a row as a list. -/
theorem Row.list {w : World} {g off n : Nat} {f : Nat → Value} (h : Row w g off n f) {a m : Nat} (hm : a + m ≤ n) : ∀ j u, (cellsN (fun i => f (a + i)) m)[j]? = some u → w.cell? ((⟨g, off + a, none⟩ : Addr).add j) = some u := by
  intro j u hj
  obtain ⟨h1, rfl⟩ := cellsN_at hj
  rw [addr_lit, Nat.add_assoc]
  exact h.2 _ (by omega)
theorem cellsN_append (f : Nat → Value) (a m : Nat) : cellsN f a ++ cellsN (fun i => f (a + i)) m = cellsN f (a + m) := by
  apply List.ext_getElem?
  intro j
  by_cases h : j < a
  · rw [List.getElem?_append_left (by rw [cellsN_length]; exact h), cellsN_get h, cellsN_get (by omega)]
  · rw [List.getElem?_append_right (by rw [cellsN_length]; omega), cellsN_length]
    by_cases h2 : j < a + m
    · rw [cellsN_get (by omega), cellsN_get h2, show a + (j - a) = j by omega]
    · rw [List.getElem?_eq_none (by rw [cellsN_length]; omega), List.getElem?_eq_none (by rw [cellsN_length]; omega)]

end Go.Proofs.Ytcbceodlakbpdaa
