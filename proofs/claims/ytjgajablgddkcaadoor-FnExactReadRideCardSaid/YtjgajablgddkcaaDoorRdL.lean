/- The law: both read a ride's text alike. -/
import Derived.Test.YtjgajablgddkcaaDoorRdR
namespace Go.Proofs.YtjgajablgddkcaaDoor
open Go.RowKit Go.Deep
set_option linter.unusedVariables false
set_option maxRecDepth 100000

/-- What the listed variables give. -/
def TabE (W : World) : Prop := Tab10 W ∧ ErrS W

set_option maxHeartbeats 800000 in
theorem l_ReadRide (s : ByteArray) (hs : s.size ≤ 140737488351232) (W : World) (h : TabE W) : Calls Tryd.prog 3 #[.string s] W (Truly W) := by
  unfold Truly
  by_cases hl : s.size ≤ 1048576
  · have HI := Lib.hid (fun w h1 h2 => i_ReadRide s w hl h1 h2)
    have HTB := Lib.hid h.1
    have HER := Lib.hid h.2
    have HS := Lib.hid (fun w => s_ReadRide s w hl)
    rw [rd_eq] at HI
    generalize rdS s.data.toList = R at *
    obtain ⟨a, b, ok⟩ := R
    have HE := Lib.hid (fun w => l_eqRide a b w)
    cases ok
    all_goals
      go_enter Tryd.func3, Tryd.ntmps3
      go_wp2_with (first
        | (go_at_call 7; refine (HS.out _).mono ?_; rintro e w1 ⟨rfl, hb1⟩; have K1 := kept_alloc hb1 (.cells #[.int .i64 a, .int .i64 b] 23))
        | (go_at_call 8; refine (HI.out _ (HTB.out.kept (by assumption)) (HER.out.kept (by assumption))).mono ?_; rintro e w2 ⟨rfl, hb2⟩; have q0 : w2.cell? ⟨w1.heap.size, 0, none⟩ = some (.int .i64 a) := cell_keep hb2 (boxed_at rfl rfl); have q1 : w2.cell? ⟨w1.heap.size, 1, none⟩ = some (.int .i64 b) := cell_keep hb2 (boxed_at rfl rfl); have y0 := fun o => cell_keep (kept_alloc (Below.refl w2.heap.size w2) o) q0; have y1 := fun o => cell_keep (kept_alloc (Below.refl w2.heap.size w2) o) q1; have K2 := kept_trans K1 hb2)
        | (go_at_call 9; refine (HE.out _).mono ?_; rintro e w3 ⟨rfl, hb3⟩; have K3 := kept_trans (kept_alloc K2 (.cells #[.int .i64 a, .int .i64 b] 23)) hb3))
      go_ret
      exact ⟨rfl, K3⟩
  · go_enter Tryd.func3, Tryd.ntmps3
    go_wp2
    go_ret
    exact ⟨rfl, Below.refl _ _⟩

open Go.ChangeShapes Go.WideShapes in
/-- What reads as an interface's datum is an interface's value. -/
theorem iface_of {H : Type} {enc : TypeId × Value → H} {P : Program} {w : World} {base : Nat} {sp : Nat → Bool} {held : Bool} {fuel : Nat} {t : TypeId} {ms : Array (String × TypeId)} {cs : List Value} {n : String} {d : DataW H} {p : List MemPlace}
    (ht : P.underlying t = some (.interface ms)) (h : DataW.trod enc P w base sp held fuel t cs = some (.iface n d, p)) : ∃ u v, cs = [.iface u v] := by
  cases fuel with
  | zero => simp [DataW.trod] at h
  | succ fuel =>
    simp only [DataW.trod, ht] at h
    split at h
    all_goals first | exact ⟨_, _, rfl⟩ | (simp at h; done) | simp_all

end Go.Proofs.YtjgajablgddkcaaDoor
