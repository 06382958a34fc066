/- Fares by their names. -/
import Derived.Test.YtjmklkhdemolmaaGreatDoorValid
import Derived.Deep.DeepMust
import Derived.Deep.RegionHeld3
import Derived.IntWalk
namespace Go.Proofs.YtjmklkhdemolmaaGreatDoor
open Go.RowKit Go.Deep
set_option linter.unusedVariables false
set_option maxRecDepth 100000

/-- A function value that answers p at the elements el 0 .. el (n - 1), and turns nothing old. -/
def AnswersF (W : World) (g : FuncId) (caps : Array Value) (n : Nat) (el : Nat → Value) (p : Nat → Bool) : Prop :=
  (∀ args w, (callFunc g args).run Tryz.prog w = .ok (.enter g args) w) ∧
  ∀ i, i < n → ∀ w, Below W.heap.size W w → Calls Tryz.prog g (#[el i] ++ caps) w fun e w' => e = .returned (.bool (p i)) ∧ Below w.heap.size w w'
/-- Two texts are the same. -/
def eqS (s t : ByteArray) : Bool := s.toList == t.toList
/-- A fare as a value. -/
def fv (a : Nat → ByteArray) (b c d : Nat → Int) : Nat → Value := fun i => .agg #[.string (a i), .int .i64 (b i), .int .i64 (c i), .int .i64 (d i)]

theorem indexFunc_fares (g : FuncId) (caps : Array Value) (p : Nat → Bool) (v : Value) (n : Nat) (a : Nat → ByteArray) (b c d : Nat → Int) (W : World) (hs : Sl W v 4 n (gc a b c d)) (hp : AnswersF W g caps n (fv a b c d) p) :
    Calls Tryz.prog 42 #[v, .func (.func g) #[] caps] W fun e W' => e = .returned (.int .i64 (idxTo p n)) ∧ Below W.heap.size W W' := by
  obtain ⟨hn, ao, cap, rfl, hr⟩ := hs
  obtain ⟨eg, hp⟩ := hp
  have HP := Lib.hid hp
  clear hp
  rcases hr with h0 | ⟨bb, off, rfl, hr⟩
  · have h0' : n ≤ 0 := by omega
    clear h0
    go_enter Tryz.func42, Tryz.ntmps42
    go_wp2
    refine wp_loop_rounds 1 ?_
    rw [rounds_succ]
    go_wp2
    go_ret
    exact ⟨ret_int (idxTo_none (fun i hi => by omega)).symm, (by repeat (first | assumption | exact Below.refl _ _ | refine kept_drew ?_ | refine kept_drewN ?_ _ | refine kept_alloc ?_ _ | refine kept_set ?_ ?_ _ | (simp; done) | (simp; omega) | refine kept_trans ?_ (by assumption)))⟩
  · go_enter Tryz.func42, Tryz.ntmps42
    go_wp2
    go_loopw [8] (fun i wr => ∃ k : Nat, k ≤ n ∧ i = .int .i64 k ∧ Below W.heap.size W wr ∧ Hid (∀ i, i < k → p i = false)) (fun i _ => n - (intOf i).toNat)
    case atStart => exact ⟨0, Nat.zero_le _, rfl, (by repeat (first | assumption | exact Below.refl _ _ | refine kept_drew ?_ | refine kept_drewN ?_ _ | refine kept_alloc ?_ _ | refine kept_set ?_ ?_ _ | (simp; done) | (simp; omega) | refine kept_trans ?_ (by assumption))), fun i hi => by omega⟩
    case round =>
      obtain ⟨k, hk, rfl, hb, hno⟩ := hrel
      by_cases hlt : k < n
      · obtain ⟨hs0, hs1, hs2, hs3⟩ := gccells (hr.kept hb) hlt
        clear hr
        have hcall := Lib.hid (HP.out k hlt wr hb)
        cases hpk : p k
        · have HN : Hid (∀ i, i < k + 1 → p i = false) := fun i hi => by
            by_cases e : i = k
            · rw [e]; exact hpk
            · exact hno.out i (by omega)
          go_wp2_with fail
          refine hcall.out.mono ?_
          rintro e w1 ⟨rfl, hb1⟩
          clear hcall hs0 hs1 hs2 hs3
          go_wp2_with fail
          go_roundw
          case rel => exact ⟨k + 1, by omega, by go_num, (by repeat (first | assumption | exact Below.refl _ _ | refine kept_drew ?_ | refine kept_drewN ?_ _ | refine kept_alloc ?_ _ | refine kept_set ?_ ?_ _ | (simp; done) | (simp; omega) | refine kept_trans ?_ (by assumption))), HN⟩
          case measure => simp [intOf]; omega
        · have HY := Lib.hid (idxTo_at (p := p) hlt hno.out hpk)
          go_wp2_with fail
          refine hcall.out.mono ?_
          rintro e w1 ⟨rfl, hb1⟩
          clear hcall hs0 hs1 hs2 hs3
          go_wp2_with fail
          go_ret
          exact ⟨by rw [HY.out]; rfl, (by repeat (first | assumption | exact Below.refl _ _ | refine kept_drew ?_ | refine kept_drewN ?_ _ | refine kept_alloc ?_ _ | refine kept_set ?_ ?_ _ | (simp; done) | (simp; omega) | refine kept_trans ?_ (by assumption)))⟩
      · go_wp2
        go_ret
        exact ⟨ret_int (idxTo_none (fun i hi => hno.out i (by omega))).symm, hb⟩

theorem i_fareOf1 (s id : ByteArray) (b c d : Int) (bx : Nat) (W : World) (h0 : W.cell? ⟨bx, 0, none⟩ = some (.string id)) : Calls Tryz.prog 43 #[.agg #[.string s, .int .i64 b, .int .i64 c, .int .i64 d], .pointer (some ⟨bx, 0, none⟩)] W fun e W' => e = .returned (.bool (eqS s id)) ∧ Below W.heap.size W W' := by
  have h1 := cell_keep (kept_alloc (Below.refl W.heap.size W) (.cells #[.string s, .int .i64 b, .int .i64 c, .int .i64 d] 32)) h0
  go_enter Tryz.func43, Tryz.ntmps43
  go_wp2
  go_ret
  exact ⟨rfl, (by repeat (first | assumption | exact Below.refl _ _ | refine kept_drew ?_ | refine kept_drewN ?_ _ | refine kept_alloc ?_ _ | refine kept_set ?_ ?_ _ | (simp; done) | (simp; omega) | refine kept_trans ?_ (by assumption)))⟩

/-- The fare with a name is number k, or there is none. -/
def fidx (n : Nat) (a : Nat → ByteArray) (id : ByteArray) : Int := idxTo (fun i => eqS (a i) id) n
theorem fidx_cases (n : Nat) (a : Nat → ByteArray) (id : ByteArray) : (fidx n a id = -1) ∨ ∃ k : Nat, k < n ∧ fidx n a id = k := by
  unfold fidx idxTo
  by_cases h : firstTo (fun i => eqS (a i) id) n < n
  · rw [if_pos h]; exact .inr ⟨_, h, rfl⟩
  · rw [if_neg h]; exact .inl rfl

attribute [irreducible] fidx eqS

theorem fidx_idx (n : Nat) (a : Nat → ByteArray) (id : ByteArray) : idxTo (fun i => eqS (a i) id) n = fidx n a id := by unfold fidx; rfl

def FareOfPost (n : Nat) (a : Nat → ByteArray) (b c d : Nat → Int) (x : Int) (W : World) (e : Ending) (W' : World) : Prop :=
  (x = -1 → e = .returned (.tuple #[.agg #[.string ⟨#[]⟩, .int .i64 0, .int .i64 0, .int .i64 0], .bool false])) ∧ (∀ k : Nat, x = k → e = .returned (.tuple #[.agg #[.string (a k), .int .i64 (b k), .int .i64 (c k), .int .i64 (d k)], .bool true])) ∧ Below W.heap.size W W'

theorem i_fareOf (v : Value) (n : Nat) (a : Nat → ByteArray) (b c d : Nat → Int) (id : ByteArray) (W : World) (hs : Sl W v 4 n (gc a b c d)) : Calls Tryz.prog 24 #[v, .string id] W (FareOfPost n a b c d (fidx n a id) W) := by
  have HI : Hid (∀ w bx, Sl w v 4 n (gc a b c d) → w.cell? ⟨bx, 0, none⟩ = some (.string id) → Calls Tryz.prog 42 #[v, .func (.func 43) #[] #[.pointer (some ⟨bx, 0, none⟩)]] w fun e W' => e = .returned (.int .i64 (fidx n a id)) ∧ Below w.heap.size w W') := fun w bx h hc => by
    have := indexFunc_fares 43 #[.pointer (some ⟨bx, 0, none⟩)] (fun i => eqS (a i) id) v n a b c d w h ⟨enters Tryz.func43 (by kernel_rfl) rfl, fun i _ w hb => i_fareOf1 (a i) id (b i) (c i) (d i) bx w (cell_keep hb hc)⟩
    rw [fidx_idx] at this
    exact this
  have HS := hs.kept (kept_alloc (kept_alloc (Below.refl _ _) (.cells #[.string id] 9)) (.cells #[.string ⟨#[]⟩, .int .i64 0, .int .i64 0, .int .i64 0] 32))
  have qc : ((W.alloc (.cells #[.string id] 9)).alloc (.cells #[.string ⟨#[]⟩, .int .i64 0, .int .i64 0, .int .i64 0] 32)).cell? ⟨W.heap.size, 0, none⟩ = some (.string id) := cell_keep (kept_alloc (Below.refl _ _) _) (boxed_at rfl rfl)
  have HC := Lib.hid (HI.out _ _ HS qc)
  have HR : Hid (((W.alloc (.cells #[.string id] 9)).alloc (.cells #[.string ⟨#[]⟩, .int .i64 0, .int .i64 0, .int .i64 0] 32)).rowIs (W.heap.size + 1) 32 4 (gc (fun _ => ⟨#[]⟩) (fun _ => 0) (fun _ => 0) (fun _ => 0))) := by
    have h := World.rowIs_alloc (W.alloc (.cells #[.string id] 9)) #[.string ⟨#[]⟩, .int .i64 0, .int .i64 0, .int .i64 0] 32 (gc (fun _ => ⟨#[]⟩) (fun _ => 0) (fun _ => 0) (fun _ => 0)) (fun i hi => by
      have hi' : i < 4 := by simpa using hi
      match i, hi' with
      | 0, _ => rfl
      | 1, _ => rfl
      | 2, _ => rfl
      | 3, _ => rfl)
    rw [show (W.alloc (.cells #[.string id] 9)).heap.size = W.heap.size + 1 by simp] at h
    exact h
  have HS1 := HS
  clear qc HI
  obtain ⟨hn, ao, cap, rfl, hr⟩ := HS
  clear hs
  rcases fidx_cases n a id with h | ⟨k, hk, h⟩
  · rw [h] at HC
    rw [h]
    have HP : Hid (∀ e W', e = .returned (.tuple #[.agg #[.string ⟨#[]⟩, .int .i64 0, .int .i64 0, .int .i64 0], .bool false]) → Below W.heap.size W W' → FareOfPost n a b c d (-1) W e W') := fun e W' h1 h2 => ⟨fun _ => h1, fun k hk => absurd hk (by omega), h2⟩
    generalize FareOfPost n a b c d (-1) W = Q at *
    clear h hr HS1
    go_enter Tryz.func24, Tryz.ntmps24
    go_wp2_with (go_at_call 42; refine HC.out.mono ?_; rintro e w1 ⟨rfl, hb1⟩; have r1 := HR.out.of_block (w' := w1) (hb1.block _ HR.out.lt); have y0 := r1.cell (i := 0) (by omega); have y1 := r1.cell (i := 1) (by omega); have y2 := r1.cell (i := 2) (by omega); have y3 := r1.cell (i := 3) (by omega); have z0 := r1.frozen 0; have z1 := r1.frozen 1; have z2 := r1.frozen 2; have z3 := r1.frozen 3; clear r1)
    refine bodyPost_ret (v := .tuple #[.agg #[.string ⟨#[]⟩, .int .i64 0, .int .i64 0, .int .i64 0], .bool false]) (by simp [results, go_sem, *]) rfl (HP.out _ _ rfl ?_)
    repeat (first | exact kept_trans (kept_alloc (kept_alloc (Below.refl _ _) _) _) hb1 | refine kept_set ?_ (by simp) _)
  · rw [h] at HC
    rw [h]
    have HP : Hid (∀ e W', e = .returned (.tuple #[.agg #[.string (a k), .int .i64 (b k), .int .i64 (c k), .int .i64 (d k)], .bool true]) → Below W.heap.size W W' → FareOfPost n a b c d k W e W') := fun e W' h1 h2 => ⟨fun h => absurd h (by omega), fun k' hk => (show k = k' by omega) ▸ h1, h2⟩
    generalize FareOfPost n a b c d k W = Q at *
    rcases hr with h0 | ⟨g, off, rfl, hr⟩
    · omega
    have hr := Lib.hid hr
    clear h HS1
    go_enter Tryz.func24, Tryz.ntmps24
    go_wp2_with (go_at_call 42; refine HC.out.mono ?_; rintro e w1 ⟨rfl, hb1⟩; have r1 := HR.out.of_block (w' := w1) (hb1.block _ HR.out.lt); have y0 := r1.cell (i := 0) (by omega); have y1 := r1.cell (i := 1) (by omega); have y2 := r1.cell (i := 2) (by omega); have y3 := r1.cell (i := 3) (by omega); have z0 := r1.frozen 0; have z1 := r1.frozen 1; have z2 := r1.frozen 2; have z3 := r1.frozen 3; clear r1; obtain ⟨x0, x1, x2, x3⟩ := gccells (hr.out.kept hb1) hk)
    refine bodyPost_ret (v := .tuple #[.agg #[.string (a k), .int .i64 (b k), .int .i64 (c k), .int .i64 (d k)], .bool true]) (by simp [results, go_sem, *]) rfl (HP.out _ _ rfl ?_)
    repeat (first | exact kept_trans (kept_alloc (kept_alloc (Below.refl _ _) _) _) hb1 | refine kept_set ?_ (by simp) _)

end Go.Proofs.YtjmklkhdemolmaaGreatDoor
