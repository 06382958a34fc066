/- A number in decimal: the reference. -/
import Derived.Test.YtjmklkhdemolmaaGreatDoorMrgA
import Derived.Lib.SlBytesRow
import Derived.Lib.ItoaNum
import Derived.Lib.ItoaMem
import Derived.Lib.ItoaLen
import Derived.Maps.AppendAt
import Derived.IntWalk
namespace Go.Proofs.YtjmklkhdemolmaaGreatDoor
open Go.RowKit Go.Deep
set_option linter.unusedVariables false
set_option maxRecDepth 100000

def ApartV (x y : Value) : Prop := ∀ b, x.ownBlock = some b → y.ownBlock ≠ some b
theorem Out.formV {w : World} {B k n : Nat} {e : TypeId} {v : Value} {f : Nat → Value} (h : Out w B e k v n f) : ∃ ao cap, v = .slice ao n cap := by
  rcases h.2 with ⟨h0, h1⟩ | ⟨gg, gcap, cur, h0, -⟩
  · exact ⟨_, _, by rw [h0, h1]⟩
  · exact ⟨_, _, h0⟩
theorem two_appendV {wr w1 : World} {o : Obj} {B k m : Nat} {e : TypeId} {v v' y : Value} {g : Nat → Value} (hy : Out wr B e k y m g) (hap : ApartV v y) (hg : (wr.alloc o).grownBy w1 v.ownBlock) (hat : v'.ownBlock = v.ownBlock ∨ v'.ownBlock = some (wr.alloc o).heap.size) : Out w1 B e k y m g ∧ ApartV v' y := by
  refine ⟨World.ownsRow.kept (hy.kept (kept_alloc (Below.refl _ _) o)) hg ?_, fun b hb hyb => ?_⟩
  · cases hyb : y.ownBlock with
    | none => exact .inl rfl
    | some b => exact .inr fun hv => hap b hv.symm hyb
  · rcases hat with h | h
    · exact hap b (h ▸ hb) hyb
    · rw [h] at hb
      have h1 := (hy.base b hyb).2
      simp at hb
      omega

theorem infoByte : (Tryz.prog.info? 5).map (fun i => (i.zero, i.size, i.bytes)) = some (some (.int .u8 0), 1, 1) := by kernel_rfl
/-- A list of bytes as a slice's cells. -/
def bcs (L : List UInt8) : Nat → Value := fun i => .int .u8 (((L.getD i 0).toNat : Nat) : Int)
theorem bcs_old (L : List UInt8) (x : UInt8) {i : Nat} (h : i < L.length) : bcs L i = bcs (L ++ [x]) i := by
  simp [bcs, List.getElem?_append_left h]
theorem bcs_new (L : List UInt8) (x : UInt8) : bcs (L ++ [x]) L.length = .int .u8 ((x.toNat : Nat) : Int) := by simp [bcs]
theorem Out.snocB {w : World} {B : Nat} {e : TypeId} {v : Value} {L : List UInt8} {x : UInt8} {u : Value} (h : w.ownsRow B e 1 v (L.length + 1) (cellsN (bcs L) (L.length * 1) ++ [u])) (hu : u = .int .u8 ((x.toNat : Nat) : Int)) : Out w B e 1 v (L ++ [x]).length (bcs (L ++ [x])) := by
  have e1 : cellsN (bcs L) (L.length * 1) = cellsN (bcs (L ++ [x])) (L.length * 1) := cellsN_congr (fun i hi => bcs_old L x (by omega))
  rw [e1] at h
  have := Out.snoc1 h (by rw [bcs_new, hu])
  simpa using this
/-- The digits of a number, none for 0. -/
def hdD (j : Nat) : List UInt8 := if j = 0 then [] else Lib.decDigits j
theorem hdD_step {j : Nat} (h : 0 < j) : hdD (j / 10) ++ [UInt8.ofNat (48 + j % 10)] = hdD j := by
  unfold hdD
  rw [if_neg (show ¬ j = 0 by omega)]
  by_cases hj : j < 10
  · rw [if_pos (show j / 10 = 0 by omega), Lib.decDigits_one hj, List.nil_append, show j % 10 = j by omega]
  · rw [if_neg (show ¬ j / 10 = 0 by omega)]
    conv => rhs; rw [Lib.decDigits, dif_neg hj]
/-- The numeral. -/
def decS (n : Nat) : ByteArray := ⟨(Lib.decDigits n).toArray⟩
theorem decS_zero : decS 0 = ⟨#[48]⟩ := by unfold decS; rw [Lib.decDigits_one (by omega)]; rfl
theorem decS_of (L : List UInt8) (n : Nat) (h : L = Lib.decDigits n) : (⟨L.toArray⟩ : ByteArray) = decS n := by rw [h]; rfl
theorem decS_itoa (n : Nat) : (⟨(Lib.itoa (n : Int)).toArray⟩ : ByteArray) = decS n := by rw [Lib.itoa_nonneg]; rfl
theorem digit_nat (j : Nat) : (48 + (j : Int) % 10) = (((UInt8.ofNat (48 + j % 10)).toNat : Nat) : Int) := by simp; omega
theorem decS_size {n : Nat} (h : n ≤ 1000000000) : (decS n).size ≤ 21 := by
  have h1 := Lib.itoa_length_le (n : Int) (by omega) (by omega)
  rw [Lib.itoa_nonneg] at h1
  show (Lib.decDigits n).toArray.size ≤ 21
  simpa using h1
attribute [irreducible] decS hdD

/-- The text of a slice of bytes. -/
theorem bytes_text (w : World) (B : Nat) (L : List UInt8) (b cap : Nat) (h : Out w B 5 1 (.slice (some ⟨b, 0, none⟩) L.length cap) L.length (bcs L)) : (convert 22 9 (.slice (some ⟨b, 0, none⟩) L.length cap)).run Tryz.prog w = .ok (.string ⟨L.toArray⟩) w := by
  have hr := Row.of_own h.row
  have hsz : (⟨L.toArray⟩ : ByteArray).size = L.length := by show L.toArray.size = L.length; simp
  have := Lib.run_convert_whole (P := Tryz.prog) w 22 5 9 Tryz.underlying22 Tryz.underlying5 Tryz.underlying9 b 0 ⟨L.toArray⟩ (fun i hi => by
    have hi' : i < L.length := by omega
    have h1 := hr.cell (i := i) (by omega)
    rw [cellsN_getD (by omega)] at h1
    rw [h1]
    unfold bcs
    simp [List.getD, hi']
    show ((L[i].toNat : Nat) : Int) = ((L.toArray[i].toNat : Nat) : Int)
    simp) cap
  rw [hsz] at this
  exact this

set_option maxHeartbeats 1600000 in
theorem s_l01Dec (n : Nat) (W : World) (hn : n ≤ 1000000000) : Calls Tryz.prog 34 #[.int .i64 n] W fun e W' => e = .returned (.string (decS n)) ∧ Below W.heap.size W W' := by
  obtain ⟨i0, hi, hz0, hz1, hz2⟩ := info_parts infoByte
  by_cases h0 : n = 0
  · subst h0
    rw [decS_zero]
    go_enter Tryz.func34, Tryz.ntmps34
    go_wp2
    go_ret
    exact ⟨rfl, (by repeat (first | assumption | exact Below.refl _ _ | refine kept_drew ?_ | refine kept_drewN ?_ _ | refine kept_alloc ?_ _ | refine kept_set ?_ ?_ _ | (simp; done) | (simp; omega) | refine kept_trans ?_ (by assumption)))⟩
  have hn0 : ¬ (n : Int) = 0 := by omega
  have HD : Hid (hdD n = Lib.decDigits n) := by show _ = _; unfold hdD; rw [if_neg h0]
  have HS : Hid (∀ j, 0 < j → hdD (j / 10) ++ [UInt8.ofNat (48 + j % 10)] = hdD j) := fun j h => hdD_step h
  have HZ : Hid (hdD 0 = []) := by show _ = _; unfold hdD; rfl
  have HO := Lib.hid (fun L h => decS_of L n h)
  go_enter Tryz.func34, Tryz.ntmps34
  go_wp2
  generalize ((n : Int) == 0) = q0
  clear hn0
  go_loopw [3, 4, 5] (fun v m d wr => ∃ (j : Nat) (D : List UInt8) (y : Value), m = .int .i64 j ∧ y = v ∧ j ≤ n ∧ D.length + j ≤ n ∧ Hid (hdD j ++ D.reverse = Lib.decDigits n) ∧ Below W.heap.size W wr ∧ Out wr W.heap.size 5 1 y D.length (bcs D)) (fun _ m _ _ => (intOf m).toNat)
  case atStart => exact ⟨n, [], _, rfl, rfl, Nat.le_refl _, by simp, by show _ = _; rw [HD.out]; simp, kept_alloc (Below.refl _ _) _, Out.empty _ _ _ _ _ (Nat.le_refl _)⟩
  case round =>
    obtain ⟨j, D, y, rfl, rfl, hjn, hDl, hD, hb, hown⟩ := hrel
    by_cases hj : 0 < j
    · have hj0 : ¬ (j : Int) = 0 := by omega
      have hm0 : (0 : Int) ≤ (j : Int) % 10 := by omega
      have HX : Hid (hdD (j / 10) ++ (D ++ [UInt8.ofNat (48 + j % 10)]).reverse = Lib.decDigits n) := by
        show _ = _
        rw [← hD.out, ← HS.out j hj]; simp
      have HDG := Lib.hid (digit_nat j)
      clear hD
      go_wp2_with (at_builtin; refine wpList_append_own_at _ rfl _ _ 22 rfl _ 5 i0 _ 1 1 Tryz.underlying22 hi hz0 hz1 hz2 rfl (by decide) _ _ _ rfl ((hown).row.alloc _) ⟨wr.heap.size, 0, none⟩ 1 1 _ (by rfl) (by rfl) (laid_at (by simp)) (by intro u hu; simp at hu; first | (rcases hu with rfl | rfl <;> rfl) | (subst hu; rfl)) (by simp only [maxLen]; omega) (by omega) (by have hbs := hb.size; simp at hbs ⊢; omega) ?_; intro vA wA hownA hgrowA hnilA hatA)
      have R1 := Lib.hid (Out.snocB hownA (congrArg (Value.int .u8) HDG.out))
      have R2 := below_of_append hb hown.row hgrowA
      clear hown hownA hgrowA hnilA hatA hb
      try go_wp2
      go_roundw
      case rel => exact ⟨j / 10, D ++ [UInt8.ofNat (48 + j % 10)], _, by go_num, rfl, by omega, by simp; omega, HX, R2, R1.out⟩
      case measure => simp [intOf]; omega
    · obtain rfl : j = 0 := by omega
      have HDD : Hid (D.reverse = Lib.decDigits n) := by show _ = _; rw [← hD.out, HZ.out]; rfl
      clear hD HS HZ HD
      obtain ⟨ao, cp, rfl⟩ := hown.formV
      have hlen : D.length ≤ 1000000000 := by omega
      have OE : Out (wr.alloc (.cells #[] 5)) W.heap.size 5 1 (.slice (some ⟨wr.heap.size, 0, none⟩) 0 0) ([] : List UInt8).length (bcs []) := Out.empty _ _ _ _ _ hb.size
      have OD : Out (wr.alloc (.cells #[] 5)) W.heap.size 5 1 (.slice ao D.length cp) D.length (bcs D) := hown.kept (kept_alloc (Below.refl _ _) _)
      have AP : Hid (ApartV (.slice (some ⟨wr.heap.size, 0, none⟩) 0 0) (.slice ao D.length cp)) := fun b hb1 hb2 => by
        have := (hown.base b hb2).2
        simp [Value.ownBlock] at hb1
        omega
      have KE : Below W.heap.size W (wr.alloc (.cells #[] 5)) := kept_alloc hb _
      clear hb hown
      rw [show ((0 : Nat) : Int) = 0 from rfl]
      go_wp2
      go_loopw [6, 7] (fun v i wq => ∃ (t : Nat) (E : List UInt8) (y : Value), t ≤ D.length ∧ E.length + t = D.length ∧ i = .int .i64 ((t : Int) - 1) ∧ y = v ∧ Hid (E = (D.drop t).reverse) ∧ Below W.heap.size W wq ∧ Hid (ApartV y (.slice ao D.length cp)) ∧ Out wq W.heap.size 5 1 (.slice ao D.length cp) D.length (bcs D) ∧ Out wq W.heap.size 5 1 y E.length (bcs E)) (fun _ i _ => (intOf i + 1).toNat)
      case atStart => exact ⟨D.length, [], _, Nat.le_refl _, by simp, rfl, rfl, by show _ = _; simp, KE, AP, OD, OE⟩
      case round =>
        clear KE AP OD OE
        obtain ⟨t, E, y, ht, hEt, rfl, rfl, hE, hb, hap, hod, hoe⟩ := hrel
        by_cases htp : 0 < t
        · obtain ⟨q, rfl⟩ : ∃ q, t = q + 1 := ⟨t - 1, by omega⟩
          have hq : q < D.length := by omega
          obtain ⟨gd, cd, hyv, -, hrow⟩ := hod.opened (by omega)
          have hyv' : ao = some ⟨gd, 0, none⟩ ∧ cp = cd := by simpa using hyv
          obtain ⟨rfl, rfl⟩ := hyv'
          have hcell := hrow.cell (i := q) (by omega)
          rw [Nat.zero_add] at hcell
          obtain ⟨xq, hxq⟩ : ∃ xq, D[q] = xq := ⟨_, rfl⟩
          have HC : bcs D q = .int .u8 ((xq.toNat : Nat) : Int) := by unfold bcs; rw [← hxq]; simp [List.getD, hq]
          rw [HC] at hcell
          have HE : Hid (E ++ [xq] = (D.drop q).reverse) := by
            show _ = _
            rw [hE.out, List.drop_eq_getElem_cons hq, List.reverse_cons, hxq]
          have e1 : ((q + 1 : Nat) : Int) - 1 = (q : Int) := by omega
          rw [e1]
          have hqi : (q : Int) < (D.length : Nat) := by omega
          clear hyv hrow hE HC hxq
          go_wp2_with (at_builtin; refine wpList_append_own_at _ rfl _ _ 22 rfl _ 5 i0 _ 1 1 Tryz.underlying22 hi hz0 hz1 hz2 rfl (by decide) _ _ _ rfl ((hoe).row.alloc _) ⟨wr.heap.size, 0, none⟩ 1 1 _ (by rfl) (by rfl) (laid_at (by simp)) (by intro u hu; simp at hu; first | (rcases hu with rfl | rfl <;> rfl) | (subst hu; rfl)) (by simp only [maxLen]; omega) (by omega) (by have hbs := hb.size; simp at hbs ⊢; omega) ?_; intro vA wA hownA hgrowA hnilA hatA)
          have R1 := Lib.hid (Out.snocB (x := xq) hownA rfl)
          have R2 := below_of_append hb hoe.row hgrowA
          have R3 := Lib.hid (two_appendV hod hap.out hgrowA hatA)
          clear hoe hod hownA hgrowA hnilA hatA hb hap
          try go_wp2
          go_roundw
          case rel => exact ⟨q, E ++ [xq], _, by omega, by simp; omega, rfl, rfl, HE, R2, R3.out.2, R3.out.1, R1.out⟩
          case measure => simp [intOf]
        · obtain rfl : t = 0 := by omega
          have HEE : Hid (E = Lib.decDigits n) := by show _ = _; rw [hE.out, ← HDD.out]; simp
          obtain ⟨be, ce, rfl⟩ : ∃ be ce, y = .slice (some ⟨be, 0, none⟩) E.length ce := by
            have hpos : 0 < E.length := by rw [HEE.out, Lib.decDigits_length]; have := Lib.nDigits_pos n; omega
            obtain ⟨be, ce, h1, -, -⟩ := hoe.opened (by omega)
            exact ⟨be, ce, h1⟩
          have kc := bytes_text wr W.heap.size E be ce hoe
          rw [HO.out E HEE.out] at kc
          clear hod hoe hap hE
          go_wp2
          go_ret
          exact ⟨rfl, hb⟩

end Go.Proofs.YtjmklkhdemolmaaGreatDoor
