/- The library's searches over []int64, at whatever function value that answers by the element. -/
import Derived.Test.YtjmklkhdemolmaaGreatDoorMrgA
namespace Go.Proofs.YtjmklkhdemolmaaGreatDoor
open Go.RowKit Go.Deep

/-- A function value that answers p at the elements el 0 .. el (n - 1), and turns nothing old. -/
def Answers (W : World) (g : FuncId) (caps : Array Value) (n : Nat) (el : Nat → Value) (p : Nat → Bool) : Prop :=
  (∀ args w, (callFunc g args).run Tryz.prog w = .ok (.enter g args) w) ∧
  ∀ i, i < n → ∀ w, Below W.heap.size W w → Calls Tryz.prog g (#[el i] ++ caps) w fun e w' => e = .returned (.bool (p i)) ∧ Below w.heap.size w w'

theorem indexFunc_ints (g : FuncId) (caps : Array Value) (p : Nat → Bool) (v : Value) (n : Nat) (z : Nat → Int) (W : World) (hs : Sl W v 1 n (ic z)) (hp : Answers W g caps n (ic z) p) :
    Calls Tryz.prog 58 #[v, .func (.func g) #[] caps] W fun e W' => e = .returned (.int .i64 (idxTo p n)) ∧ Below W.heap.size W W' := by
  obtain ⟨hn, ao, cap, rfl, hr⟩ := hs
  obtain ⟨eg, hp⟩ := hp
  have HP := Lib.hid hp
  clear hp
  rcases hr with h0 | ⟨b, off, rfl, hr⟩
  · have h0' : n ≤ 0 := by omega
    clear h0
    go_enter Tryz.func58, Tryz.ntmps58
    go_wp2
    refine wp_loop_rounds 1 ?_
    rw [rounds_succ]
    go_wp2
    go_ret
    exact ⟨ret_int (idxTo_none (fun i hi => by omega)).symm, (by repeat (first | assumption | exact Below.refl _ _ | refine kept_drew ?_ | refine kept_drewN ?_ _ | refine kept_alloc ?_ _ | refine kept_set ?_ ?_ _ | (simp; done) | (simp; omega) | refine kept_trans ?_ (by assumption)))⟩
  · go_enter Tryz.func58, Tryz.ntmps58
    go_wp2
    go_loopw [8] (fun i wr => ∃ k : Nat, k ≤ n ∧ i = .int .i64 k ∧ Below W.heap.size W wr ∧ Hid (∀ i, i < k → p i = false)) (fun i _ => n - (intOf i).toNat)
    case atStart => exact ⟨0, Nat.zero_le _, rfl, (by repeat (first | assumption | exact Below.refl _ _ | refine kept_drew ?_ | refine kept_drewN ?_ _ | refine kept_alloc ?_ _ | refine kept_set ?_ ?_ _ | (simp; done) | (simp; omega) | refine kept_trans ?_ (by assumption))), fun i hi => by omega⟩
    case round =>
      obtain ⟨k, hk, rfl, hb, hno⟩ := hrel
      by_cases hlt : k < n
      · have hs := (hr.kept hb).cell (i := k) (by omega)
        simp only [ic] at hs
        clear hr
        have hcall := Lib.hid (HP.out k hlt wr hb)
        cases hpk : p k
        · have HN : Hid (∀ i, i < k + 1 → p i = false) := fun i hi => by
            by_cases e : i = k
            · rw [e]; exact hpk
            · exact hno.out i (by omega)
          go_wp2_with fail
          refine hcall.out.mono ?_
          rintro e w1 ⟨rfl, hb1⟩
          clear hcall hs
          go_wp2_with fail
          go_roundw
          case rel => exact ⟨k + 1, by omega, by go_num, (by repeat (first | assumption | exact Below.refl _ _ | refine kept_drew ?_ | refine kept_drewN ?_ _ | refine kept_alloc ?_ _ | refine kept_set ?_ ?_ _ | (simp; done) | (simp; omega) | refine kept_trans ?_ (by assumption))), HN⟩
          case measure => simp [intOf]; omega
        · have HY := Lib.hid (idxTo_at (p := p) hlt hno.out hpk)
          go_wp2_with fail
          refine hcall.out.mono ?_
          rintro e w1 ⟨rfl, hb1⟩
          clear hcall hs
          go_wp2_with fail
          go_ret
          exact ⟨by rw [HY.out]; rfl, (by repeat (first | assumption | exact Below.refl _ _ | refine kept_drew ?_ | refine kept_drewN ?_ _ | refine kept_alloc ?_ _ | refine kept_set ?_ ?_ _ | (simp; done) | (simp; omega) | refine kept_trans ?_ (by assumption)))⟩
      · go_wp2
        go_ret
        exact ⟨ret_int (idxTo_none (fun i hi => hno.out i (by omega))).symm, hb⟩

theorem containsFunc_ints (g : FuncId) (caps : Array Value) (p : Nat → Bool) (v : Value) (n : Nat) (z : Nat → Int) (W : World) (hs : Sl W v 1 n (ic z)) (hp : Answers W g caps n (ic z) p) :
    Calls Tryz.prog 49 #[v, .func (.func g) #[] caps] W fun e W' => e = .returned (.bool (!allTo (fun i => !p i) n)) ∧ Below W.heap.size W W' := by
  have hc := Lib.hid (indexFunc_ints g caps p v n z W hs hp)
  have hg := Lib.hid (idxTo_ge (p := p) (n := n))
  go_enter Tryz.func49, Tryz.ntmps49
  go_wp2_with (go_at_call 58; refine hc.out.mono ?_; rintro e w1 ⟨rfl, hb1⟩)
  go_ret
  exact ⟨by rw [← hg.out]; rfl, hb1⟩

end Go.Proofs.YtjmklkhdemolmaaGreatDoor
