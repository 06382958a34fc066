/- A law's state, opened to its fields; a state by its number. -/
import Derived.Test.YtkloolhngddpiaaOpen
import Derived.Test.YtkloolhngddpiaaChkP
namespace Go.Proofs.Ytkloolhngddpiaa
open Go.ChangeShapes Go.WideShapes Go.RowKit Go.Deep Go.Joins
set_option maxRecDepth 100000

section
variable {H : Type} {enc : TypeId × Value → H} {W : World} {base : Nat}

theorem open_state {v : Value} {d : DataW H} {p : List MemPlace} (hv : Value.okWide Try.prog W .any base 51 v) (h : DataW.Trod enc Try.prog W 0 (fun _ => true) true 51 v d p) :
    ∃ (m : Int) (o a b e : Bool), v = .agg #[.int .i64 m, .bool o, .bool a, .bool b, .bool e] := by
  obtain ⟨cs, rfl, hsz⟩ := okWide_struct Try.underlying51 hv
  have h5 : cs.size = 5 := hsz.trans (by kernel_rfl)
  obtain ⟨l⟩ := cs
  match l, h5 with
  | [c0, c1, c2, c3, c4], _ =>
    obtain ⟨fuel, hf⟩ := h
    obtain ⟨xs, n', hn', hy', hlen, hyl, hf⟩ := DataW.trod_struct Try.underlying51 hf
    have o1 : Try.prog.cellsOf 2 = 1 := by kernel_rfl
    have o2 : Try.prog.cellsOf 4 = 1 := by kernel_rfl
    have h0 := hf 0 _ rfl
    have h1 := hf 1 _ rfl
    have h2 := hf 2 _ rfl
    have h3 := hf 3 _ rfl
    have h4 := hf 4 _ rfl
    have hx : xs.length = 5 := hyl
    rw [List.getElem?_eq_getElem (by omega)] at h0 h1 h2 h3 h4
    simp [Value.cells, o1, o2] at h0 h1 h2 h3 h4
    obtain ⟨a0, e0, -, -⟩ := DataW.trod_int Try.underlying2 h0
    obtain ⟨a1, e1, -⟩ := DataW.trod_bool Try.underlying4 h1
    obtain ⟨a2, e2, -⟩ := DataW.trod_bool Try.underlying4 h2
    obtain ⟨a3, e3, -⟩ := DataW.trod_bool Try.underlying4 h3
    obtain ⟨a4, e4, -⟩ := DataW.trod_bool Try.underlying4 h4
    simp at e0 e1 e2 e3 e4
    exact ⟨a0, a1, a2, a3, a4, by rw [e0, e1, e2, e3, e4]⟩
end

theorem st_code {m : Int} {o a b e : Bool} (h0 : 0 ≤ m) (h4 : m ≤ 4) : ∃ c, c < 80 ∧ ((cm c : Nat) : Int) = m ∧ co c = o ∧ ca c = a ∧ cb c = b ∧ ce c = e := by
  obtain ⟨k, rfl⟩ : ∃ k : Nat, (k : Int) = m := ⟨m.toNat, by omega⟩
  rcases (show k = 0 ∨ k = 1 ∨ k = 2 ∨ k = 3 ∨ k = 4 by omega) with rfl | rfl | rfl | rfl | rfl
  all_goals
    first
    | (refine ⟨enc 0 o a b e, ?_, ?_, ?_, ?_, ?_, ?_⟩ <;> cases o <;> cases a <;> cases b <;> cases e <;> decide)
    | (refine ⟨enc 1 o a b e, ?_, ?_, ?_, ?_, ?_, ?_⟩ <;> cases o <;> cases a <;> cases b <;> cases e <;> decide)
    | (refine ⟨enc 2 o a b e, ?_, ?_, ?_, ?_, ?_, ?_⟩ <;> cases o <;> cases a <;> cases b <;> cases e <;> decide)
    | (refine ⟨enc 3 o a b e, ?_, ?_, ?_, ?_, ?_, ?_⟩ <;> cases o <;> cases a <;> cases b <;> cases e <;> decide)
    | (refine ⟨enc 4 o a b e, ?_, ?_, ?_, ?_, ?_, ?_⟩ <;> cases o <;> cases a <;> cases b <;> cases e <;> decide)

end Go.Proofs.Ytkloolhngddpiaa
