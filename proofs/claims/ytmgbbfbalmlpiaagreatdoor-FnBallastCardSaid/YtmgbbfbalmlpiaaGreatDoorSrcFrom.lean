/- Byte slices as a law's arguments; the source made over them; the choices that the laws take of them. -/
import Derived.Test.YtmgbbfbalmlpiaaGreatDoorSrc
import Derived.Test.YtmgbbfbalmlpiaaGreatDoorOpen
namespace Go.Proofs.YtmgbbfbalmlpiaaGreatDoor
open Go.ChangeShapes Go.WideShapes Go.RowKit Go.Deep
set_option linter.unusedVariables false
set_option maxRecDepth 100000

/-- v is a slice of n bytes. -/
def ByS (w : World) (v : Value) (n : Nat) : Prop :=
  n ≤ 140737488355328 ∧ ∃ ao cap, v = .slice ao n cap ∧ (n = 0 ∨ ∃ g off, ao = some ⟨g, off, none⟩ ∧ g < w.heap.size ∧ ∀ i, i < n → ∃ y : Int, w.cell? ⟨g, off + i, none⟩ = some (.int .u8 y) ∧ 0 ≤ y ∧ y ≤ 255)
theorem ByS.kept {w w1 : World} {v : Value} {n : Nat} (h : ByS w v n) (hb : Below w.heap.size w w1) : ByS w1 v n := by
  obtain ⟨h1, ao, cap, h2, h3⟩ := h
  refine ⟨h1, ao, cap, h2, ?_⟩
  rcases h3 with h3 | ⟨g, off, e, hg, hy⟩
  · exact .inl h3
  · exact .inr ⟨g, off, e, Nat.lt_of_lt_of_le hg hb.size, fun i hi => by obtain ⟨y, q1, q2⟩ := hy i hi; exact ⟨y, cell_keep hb q1, q2⟩⟩

section
variable {H : Type} {enc : TypeId × Value → H} {W : World} {base : Nat}

theorem open_slb {t e : TypeId} {k : Nat} {v : Value} {d : DataW H} {p : List MemPlace} (ht : Tryz.prog.underlying t = some (.slice e)) (hk : Tryz.prog.cellsOf e = k) (hk0 : 0 < k) (hby : 1 ≤ Tryz.prog.bytesOf e)
    (hv : Value.okWide Tryz.prog W .any base t v) (h : DataW.Trod enc Tryz.prog W 0 (fun _ => true) true t v d p) (hlt : ∀ x ∈ p, x.block < W.heap.size) (hw : ∀ n ∈ d.weights Tryz.prog t, n ≤ reachBytes) :
    ∃ (n : Nat) (f : Nat → Value), (n ≤ 140737488355328 ∧ ∃ ao cap, v = .slice ao n cap ∧ (n = 0 ∨ ∃ g off, ao = some ⟨g, off, none⟩ ∧ Row W g off (n * k) f)) ∧ ∀ i, i < n → ∃ m y, DataW.trod enc Tryz.prog W 0 (fun _ => true) true m e ((List.range k).map fun j => f (i * k + j)) = some y := by
  obtain ⟨a0, len0, cap0, rfl⟩ := okWide_slice ht hv
  obtain ⟨fuel, hf⟩ := h
  rcases open_slice ht hf with ⟨hcs, _⟩ | ⟨a, len, cap, m, n, D, Pl, hcs, _, hl, hm, hmm, hx, hi⟩
  · simp [Value.cells] at hcs
    obtain ⟨rfl, rfl, rfl⟩ := hcs
    exact ⟨0, fun _ => undef, ⟨by omega, _, _, rfl, .inl rfl⟩, fun i hi => by omega⟩
  · simp [Value.cells] at hcs
    obtain ⟨rfl, rfl, rfl⟩ := hcs
    simp only [if_true] at hmm
    subst hmm
    simp only [Prod.mk.injEq] at hx
    obtain ⟨rfl, rfl⟩ := hx
    rw [hk] at hi
    have hsize : len0 ≤ 140737488355328 := by
      have := hw _ (by simp only [DataW.weights, ht]; exact List.mem_cons_self)
      simp only [List.length_map, List.length_range, reachBytes] at this
      have h2 : len0 * 1 ≤ (len0 + (m - len0)) * Tryz.prog.bytesOf e := Nat.mul_le_mul (by omega) hby
      omega
    have hcell : ∀ i, i < len0 → ∀ j, j < k → ∃ u, W.cell? (a.add (i * k + j)) = some u := by
      intro i hil j hj
      obtain ⟨cs', hc, _⟩ := hi i (by omega)
      obtain ⟨_, hcl, hat⟩ := World.cells?_some hc
      have := hat j hj
      rw [← Go.Deep.add_add, this, List.getElem?_eq_getElem (by omega)]
      exact ⟨_, rfl⟩
    refine ⟨len0, fun j => (W.cell? (a.add j)).getD undef, ⟨hsize, _, _, rfl, ?_⟩, ?_⟩
    · by_cases h0 : len0 = 0
      · exact .inl h0
      · obtain ⟨b, off, spot⟩ := a
        obtain ⟨u, hu⟩ := hcell 0 (by omega) 0 hk0
        have hspot : spot = none := by simpa [Addr.add] using World.cell?_spot hu
        subst hspot
        refine .inr ⟨b, off, rfl, hlt (.cell b off) (List.mem_append_left _ (MemPlace.mem_row.2 ⟨0, ?_, by simp⟩)), fun j hj => ?_⟩
        · rw [hk]; exact Nat.mul_pos (by omega) hk0
        · have hd : j / k < len0 := Nat.div_lt_of_lt_mul (by rw [Nat.mul_comm]; exact hj)
          have hm2 := Nat.mod_lt j hk0
          obtain ⟨u, hu⟩ := hcell (j / k) hd (j % k) hm2
          have e1 : j / k * k + j % k = j := by rw [Nat.mul_comm]; exact Nat.div_add_mod j k
          rw [e1] at hu
          have e2 : (⟨b, off, none⟩ : Addr).add j = ⟨b, off + j, none⟩ := by simp [Addr.add]
          rw [e2] at hu
          show W.cell? ⟨b, off + j, none⟩ = some ((W.cell? ((⟨b, off, none⟩ : Addr).add j)).getD undef)
          rw [e2, hu]; rfl
    · intro i hil
      obtain ⟨cs', hc, ht'⟩ := hi i (by omega)
      obtain ⟨_, hcl, hat⟩ := World.cells?_some hc
      have e1 : (List.range k).map (fun j => (W.cell? (a.add (i * k + j))).getD undef) = cs' := by
        apply List.ext_getElem?
        intro j
        by_cases hj : j < k
        · rw [List.getElem?_map, List.getElem?_range hj]
          have := hat j hj
          rw [Go.Deep.add_add] at this
          simp only [Option.map_some, this, List.getElem?_eq_getElem (show j < cs'.length by omega), Option.getD_some]
        · rw [List.getElem?_eq_none (by simpa using hj), List.getElem?_eq_none (by omega)]
      exact ⟨n, _, by rw [e1]; exact ht'⟩

theorem u8_wf {n : Int} (h : (Lit.int .u8 n).wf = true) : 0 ≤ n ∧ n ≤ 255 := by
  have h1 : IntKind.u8.min = 0 := rfl
  have h2 : IntKind.u8.max = 255 := rfl
  simp only [Lit.wf, Bool.and_eq_true, decide_eq_true_eq] at h
  omega
theorem open_bytes {v : Value} {d : DataW H} {p : List MemPlace} (hv : Value.okWide Tryz.prog W .any base 22 v) (h : DataW.Trod enc Tryz.prog W 0 (fun _ => true) true 22 v d p) (hlt : ∀ x ∈ p, x.block < W.heap.size) (hw : ∀ n ∈ d.weights Tryz.prog 22, n ≤ reachBytes) :
    ∃ n, ByS W v n := by
  obtain ⟨n, f, ⟨hn, ao, cap, hv2, hs⟩, he⟩ := open_slb Tryz.underlying22 (k := 1) (by kernel_rfl) (by omega) (of_decide_eq_true (by kernel_rfl)) hv h hlt hw
  refine ⟨n, hn, ao, cap, hv2, ?_⟩
  rcases hs with h0 | ⟨g, off, e, hr⟩
  · exact .inl h0
  · refine .inr ⟨g, off, e, hr.1, fun i hi => ?_⟩
    obtain ⟨m, y, hy⟩ := he i hi
    obtain ⟨q, e0, -, wq⟩ := DataW.trod_int Tryz.underlying5 hy
    simp at e0
    have hc := hr.2 i (by omega)
    rw [e0] at hc
    exact ⟨q, hc, u8_wf wq⟩
end

theorem src_from (v : Value) (n : Nat) (W : World) (h : ByS W v n) (hn : n ≤ 1048576) : Calls Tryz.prog 14 #[v] W fun e W' => e = .returned (.pointer (some ⟨W.heap.size, 0, none⟩)) ∧ Below W.heap.size W W' ∧ SrcAt W' W.heap.size 0 ∧ W'.heap.size = W.heap.size + 1 := by
  obtain ⟨h1, ao, cap, rfl, h3⟩ := h
  have HS : Hid (SrcAt (W.alloc (.cells #[.slice ao n cap, .int .i64 0, .int .u64 0] 64)) W.heap.size 0) := by
    refine ⟨by simp, fun i => World.frozen?_alloc_at _ _ _ i rfl, ao, n, cap, 0, 0, boxed_at rfl rfl, boxed_at rfl rfl, boxed_at rfl rfl, by omega, by omega, by omega, by omega, hn, ?_⟩
    rcases h3 with h3 | ⟨g, off, e, hg, hy⟩
    · exact .inl h3
    · exact .inr ⟨g, off, e, hg, fun i hi => by obtain ⟨y, q1, q2⟩ := hy i hi; exact ⟨y, cell_keep (kept_alloc (Below.refl _ _) _) q1, q2⟩⟩
  clear h3
  go_enter Tryz.func14, Tryz.ntmps14
  go_wp2
  go_ret
  exact ⟨rfl, kept_alloc (Below.refl _ _) _, HS.out, by simp⟩

end Go.Proofs.YtmgbbfbalmlpiaaGreatDoor
