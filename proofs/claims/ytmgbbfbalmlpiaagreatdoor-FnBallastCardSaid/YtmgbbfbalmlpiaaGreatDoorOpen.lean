/- A law's arguments, opened to what its walk wants. -/
import Derived.Test.YtmgbbfbalmlpiaaGreatDoorInts
namespace Go.Proofs.YtmgbbfbalmlpiaaGreatDoor
open Go.ChangeShapes Go.WideShapes Go.RowKit Go.Deep
set_option maxRecDepth 100000

theorem wf_bd {n : Int} (h : (Lit.int .i64 n).wf = true) : -9223372036854775808 ≤ n ∧ n ≤ 9223372036854775807 := by
  have h1 : IntKind.i64.min = -9223372036854775808 := rfl
  have h2 : IntKind.i64.max = 9223372036854775807 := rfl
  simp only [Lit.wf, Bool.and_eq_true, decide_eq_true_eq] at h
  omega

def vnum : Value → Int | .int _ n => n | _ => 0
def vtxt : Value → ByteArray | .string s => s | _ => ByteArray.empty

theorem weights_at {H : Type} {P : Program} {ts : List TypeId} {ds : List (DataW H)} (h : (DataW.weightsEach P ts ds).all (· ≤ reachBytes) = true) {j : Nat} {t : TypeId} {d : DataW H} (ht : ts[j]? = some t) (hd : ds[j]? = some d) :
    ∀ n ∈ d.weights P t, n ≤ reachBytes := fun n hn => by
  have := List.all_eq_true.1 h _ (DataW.weights_mem_each ht hd n hn)
  simpa using this

section
variable {H : Type} {enc : TypeId × Value → H} {W : World} {base : Nat}

theorem open_sl {t e : TypeId} {k : Nat} {v : Value} {d : DataW H} {p : List MemPlace} (ht : Tryz.prog.underlying t = some (.slice e)) (hk : Tryz.prog.cellsOf e = k) (hk0 : 0 < k) (hby : 8 ≤ Tryz.prog.bytesOf e)
    (hv : Value.okWide Tryz.prog W .any base t v) (h : DataW.Trod enc Tryz.prog W 0 (fun _ => true) true t v d p) (hlt : ∀ x ∈ p, x.block < W.heap.size) (hw : ∀ n ∈ d.weights Tryz.prog t, n ≤ reachBytes) :
    ∃ n f, Sl W v k n f ∧ ∀ i, i < n → ∃ m y, DataW.trod enc Tryz.prog W 0 (fun _ => true) true m e ((List.range k).map fun j => f (i * k + j)) = some y := by
  obtain ⟨a0, len0, cap0, rfl⟩ := okWide_slice ht hv
  obtain ⟨fuel, hf⟩ := h
  rcases open_slice ht hf with ⟨hcs, _⟩ | ⟨a, len, cap, m, n, D, Pl, hcs, _, hl, hm, hmm, hx, hi⟩
  · simp [Value.cells] at hcs
    obtain ⟨rfl, rfl, rfl⟩ := hcs
    exact ⟨0, fun _ => undef, ⟨by omega, _, _, rfl, .inl rfl⟩, fun i hi => by omega⟩
  · simp [Value.cells] at hcs
    obtain ⟨rfl, rfl, rfl⟩ := hcs
    simp only [if_true] at hmm
    subst hmm
    simp only [Prod.mk.injEq] at hx
    obtain ⟨rfl, rfl⟩ := hx
    rw [hk] at hi
    have hsize : len0 ≤ 17592186044416 := by
      have := hw _ (by simp only [DataW.weights, ht]; exact List.mem_cons_self)
      simp only [List.length_map, List.length_range, reachBytes] at this
      have h2 : len0 * 8 ≤ (len0 + (m - len0)) * Tryz.prog.bytesOf e := Nat.mul_le_mul (by omega) hby
      omega
    have hcell : ∀ i, i < len0 → ∀ j, j < k → ∃ u, W.cell? (a.add (i * k + j)) = some u := by
      intro i hil j hj
      obtain ⟨cs', hc, _⟩ := hi i (by omega)
      obtain ⟨_, hcl, hat⟩ := World.cells?_some hc
      have := hat j hj
      rw [← Go.Deep.add_add, this, List.getElem?_eq_getElem (by omega)]
      exact ⟨_, rfl⟩
    refine ⟨len0, fun j => (W.cell? (a.add j)).getD undef, ⟨hsize, _, _, rfl, ?_⟩, ?_⟩
    · by_cases h0 : len0 = 0
      · exact .inl h0
      · obtain ⟨b, off, spot⟩ := a
        obtain ⟨u, hu⟩ := hcell 0 (by omega) 0 hk0
        have hspot : spot = none := by simpa [Addr.add] using World.cell?_spot hu
        subst hspot
        refine .inr ⟨b, off, rfl, hlt (.cell b off) (List.mem_append_left _ (MemPlace.mem_row.2 ⟨0, ?_, by simp⟩)), fun j hj => ?_⟩
        · rw [hk]; exact Nat.mul_pos (by omega) hk0
        · have hd : j / k < len0 := Nat.div_lt_of_lt_mul (by rw [Nat.mul_comm]; exact hj)
          have hm2 := Nat.mod_lt j hk0
          obtain ⟨u, hu⟩ := hcell (j / k) hd (j % k) hm2
          have e1 : j / k * k + j % k = j := by rw [Nat.mul_comm]; exact Nat.div_add_mod j k
          rw [e1] at hu
          have e2 : (⟨b, off, none⟩ : Addr).add j = ⟨b, off + j, none⟩ := by simp [Addr.add]
          rw [e2] at hu
          show W.cell? ⟨b, off + j, none⟩ = some ((W.cell? ((⟨b, off, none⟩ : Addr).add j)).getD undef)
          rw [e2, hu]; rfl
    · intro i hil
      obtain ⟨cs', hc, ht'⟩ := hi i (by omega)
      obtain ⟨_, hcl, hat⟩ := World.cells?_some hc
      have e1 : (List.range k).map (fun j => (W.cell? (a.add (i * k + j))).getD undef) = cs' := by
        apply List.ext_getElem?
        intro j
        by_cases hj : j < k
        · rw [List.getElem?_map, List.getElem?_range hj]
          have := hat j hj
          rw [Go.Deep.add_add] at this
          simp only [Option.map_some, this, List.getElem?_eq_getElem (show j < cs'.length by omega), Option.getD_some]
        · rw [List.getElem?_eq_none (by simpa using hj), List.getElem?_eq_none (by omega)]
      exact ⟨n, _, by rw [e1]; exact ht'⟩

theorem open_ints {v : Value} {d : DataW H} {p : List MemPlace} (hv : Value.okWide Tryz.prog W .any base 32 v) (h : DataW.Trod enc Tryz.prog W 0 (fun _ => true) true 32 v d p) (hlt : ∀ x ∈ p, x.block < W.heap.size) (hw : ∀ n ∈ d.weights Tryz.prog 32, n ≤ reachBytes) :
    ∃ n z, Sl W v 1 n (ic z) ∧ ∀ i, i < n → -9223372036854775808 ≤ z i ∧ z i ≤ 9223372036854775807 := by
  obtain ⟨n, f, hs, he⟩ := open_sl Tryz.underlying32 (k := 1) (by kernel_rfl) (by omega) (of_decide_eq_true (by kernel_rfl)) hv h hlt hw
  have key : ∀ i, i < n → ∃ q, f i = .int .i64 q ∧ (Lit.int .i64 q).wf = true := by
    intro i hi
    obtain ⟨m, y, hy⟩ := he i hi
    obtain ⟨q, e0, -, wq⟩ := DataW.trod_int Tryz.underlying2 hy
    simp at e0
    exact ⟨q, e0, wq⟩
  refine ⟨n, fun i => vnum (f i), hs.congr (fun i hi => ?_), fun i hi => ?_⟩
  · obtain ⟨q, e0, _⟩ := key i (by omega)
    simp [ic, e0, vnum]
  · obtain ⟨q, e0, wq⟩ := key i hi
    show -9223372036854775808 ≤ vnum (f i) ∧ vnum (f i) ≤ 9223372036854775807
    rw [e0]
    exact wf_bd wq
end

end Go.Proofs.YtmgbbfbalmlpiaaGreatDoor
