/- What is drawn for the waters of trips. -/
import Derived.Test.YtmgbbfbalmlpiaaGreatDoorDrawW
import Derived.Deep.DeepMust
import Derived.Maps.AppendAt
namespace Go.Proofs.YtmgbbfbalmlpiaaGreatDoor
open Go.RowKit Go.Deep
set_option linter.unusedVariables false
set_option maxRecDepth 100000

theorem BoxAt.far {w w1 : World} {k : Nat} {a b c d : Value} {row : Option Nat} (h : BoxAt w k a b c d) (hg : w.grownBy w1 row) (hne : ∀ r, row = some r → k ≠ r) : BoxAt w1 k a b c d := by
  have hn : some k ≠ row := fun e => hne k e.symm rfl
  have hc : ∀ i v, w.cell? ⟨k, i, none⟩ = some v → w1.cell? ⟨k, i, none⟩ = some v := fun i v hv => (World.cell?_of_block (a := ⟨k, i, none⟩) (hg.block k h.1 hn)).trans hv
  refine ⟨Nat.lt_of_lt_of_le h.1 hg.size, hc _ _ h.2.1, hc _ _ h.2.2.1, hc _ _ h.2.2.2.1, hc _ _ h.2.2.2.2.1, fun i => ?_⟩
  have := h.2.2.2.2.2 i
  unfold World.frozen? at this ⊢
  rw [hg.block k h.1 hn]
  exact this
def ApartD (x y : Value) : Prop := ∀ b, x.ownBlock = some b → y.ownBlock ≠ some b
theorem two_appendD {wr w1 : World} {o : Obj} {B k m : Nat} {e : TypeId} {v v' y : Value} {g : Nat → Value} (hy : Out wr B e k y m g) (hap : ApartD v y) (hg : (wr.alloc o).grownBy w1 v.ownBlock) (hat : v'.ownBlock = v.ownBlock ∨ v'.ownBlock = some (wr.alloc o).heap.size) : Out w1 B e k y m g ∧ ApartD v' y := by
  refine ⟨World.ownsRow.kept (hy.kept (kept_alloc (Below.refl _ _) o)) hg ?_, fun b hb hyb => ?_⟩
  · cases hyb : y.ownBlock with
    | none => exact .inl rfl
    | some b => exact .inr fun hv => hap b hv.symm hyb
  · rcases hat with h | h
    · exact hap b (h ▸ hb) hyb
    · rw [h] at hb
      have h1 := (hy.base b hyb).2
      simp at hb
      omega
theorem ApartD.symm {x y : Value} (h : ApartD x y) : ApartD y x := fun b hb hx => h b hx hb
def updI (j : Nat) (x : Int) (f : Nat → Int) : Nat → Int := fun i => if i = j then x else f i
theorem snoc_int {w : World} {B j : Nat} {e : TypeId} {v : Value} {f : Nat → Int} {a : Int} (h : w.ownsRow B e 1 v (j + 1) (cellsN (ic f) (j * 1) ++ [.int .i64 a])) : Out w B e 1 v (j + 1) (ic (updI j a f)) := by
  have e1 : cellsN (ic f) (j * 1) = cellsN (ic (updI j a f)) (j * 1) := cellsN_congr (fun i hi => by simp only [ic]; unfold updI; rw [if_neg (by omega)])
  rw [e1] at h
  exact Out.snoc1 h (by simp only [ic]; unfold updI; rw [if_pos rfl])
theorem out_src {w w' : World} {B g k n : Nat} {e : TypeId} {v : Value} {f : Nat → Value} (h : Out w B e k v n f) (hg : w.grownBy w' (some g)) (hgB : g < B) : Out w' B e k v n f :=
  World.ownsRow.kept (row := some g) h hg (by
    cases hv : v.ownBlock with
    | none => exact .inl rfl
    | some b => refine .inr fun e => ?_; have := (h.base b hv).1; have e2 := Option.some.inj e; omega)
theorem infoI : (Tryz.prog.info? 2).map (fun i => (i.zero, i.size, i.bytes)) = some (some (.int .i64 0), 1, 8) := by kernel_rfl
/-- What holds between the draws: the source, the two boxes, the two lists. -/
structure TripAt (W w : World) (bb : Nat) (c : Int) (t r s p : Int) (x y : Value) (j m : Nat) (a b : Nat → Int) : Prop where
  below : Below W.heap.size W w
  src : SrcAt w (W.heap.size + 1) c
  zero : BoxAt w W.heap.size (.int .i64 0) (.int .i64 0) (.int .i64 0) (.int .i64 0)
  box : BoxAt w bb (.int .i64 t) (.int .i64 r) (.int .i64 s) (.int .i64 p)
  xs : Out w (bb + 1) 2 1 x j (ic a)
  ys : Out w (bb + 1) 2 1 y m (ic b)
  apart : ApartD x y
theorem TripAt.pick {W w w' : World} {bb : Nat} {c d : Int} {t r s p : Int} {x y : Value} {j m : Nat} {a b : Nat → Int} (h : TripAt W w bb c t r s p x y j m a b) (hbb : W.heap.size + 1 < bb) (hg : w.grownBy w' (some (W.heap.size + 1))) (hs : SrcAt w' (W.heap.size + 1) d) : TripAt W w' bb d t r s p x y j m a b :=
  ⟨h.below.grown hg h.below.size (fun r e => by have e2 : W.heap.size + 1 = r := Option.some.inj e; omega), hs, h.zero.grown hg (by omega), h.box.grown hg (by omega), out_src h.xs hg (by omega), out_src h.ys hg (by omega), h.apart⟩
theorem TripAt.kept {W w w' : World} {bb : Nat} {c : Int} {t r s p : Int} {x y : Value} {j m : Nat} {a b : Nat → Int} (h : TripAt W w bb c t r s p x y j m a b) (hb : Below w.heap.size w w') : TripAt W w' bb c t r s p x y j m a b :=
  ⟨kept_trans h.below hb, h.src.kept hb, h.zero.kept hb, h.box.kept hb, h.xs.kept hb, h.ys.kept hb, h.apart⟩
theorem TripAt.appX {W w w1 : World} {bb : Nat} {c : Int} {t r s p : Int} {x y v : Value} {j m : Nat} {a b : Nat → Int} {o : Obj} {u : Int} (h : TripAt W w bb c t r s p x y j m a b) (hbb : W.heap.size + 1 < bb) (ho : w1.ownsRow (bb + 1) 2 1 v (j + 1) (cellsN (ic a) (j * 1) ++ [.int .i64 u])) (hg : (w.alloc o).grownBy w1 x.ownBlock) (hat : v.ownBlock = x.ownBlock ∨ v.ownBlock = some (w.alloc o).heap.size) : TripAt W w1 bb c t r s p v y (j + 1) m (updI j u a) b := by
  have hr : ∀ q, x.ownBlock = some q → bb + 1 ≤ q := fun q e => (h.xs.base q e).1
  obtain ⟨h1, h2⟩ := two_appendD h.ys h.apart hg hat
  exact ⟨(kept_alloc h.below o).grown hg (by have := h.below.size; simp; omega) (fun q e => by have := hr q e; omega), (h.src.kept (kept_alloc (Below.refl _ _) o)).far hg (fun q e => by have := hr q e; omega), (h.zero.kept (kept_alloc (Below.refl _ _) o)).far hg (fun q e => by have := hr q e; omega), (h.box.kept (kept_alloc (Below.refl _ _) o)).far hg (fun q e => by have := hr q e; omega), snoc_int ho, h1, h2⟩
theorem TripAt.swap {W w : World} {bb : Nat} {c : Int} {t r s p : Int} {x y : Value} {j m : Nat} {a b : Nat → Int} (h : TripAt W w bb c t r s p x y j m a b) : TripAt W w bb c t r s p y x m j b a :=
  ⟨h.below, h.src, h.zero, h.box, h.ys, h.xs, h.apart.symm⟩

end Go.Proofs.YtmgbbfbalmlpiaaGreatDoor
