/- The cheapest fares: the program. -/
import Derived.Test.YtjmklkhdemolmaaGreatDoorCheapI
import Derived.Deep.DeepCutAuto
import Derived.BigRegion
namespace Go.Proofs.YtjmklkhdemolmaaGreatDoor
open Go.RowKit Go.Deep
set_option linter.unusedVariables false
set_option maxRecDepth 100000

theorem made2 (w : World) (n : Nat) (T1 T2 : TypeId) : ((w.alloc (.cells (madeCells #[.int .i64 0] n) T1)).alloc (.cells (madeCells #[.int .i64 0] n) T2)).rowIs w.heap.size T1 n (ic fun _ => 0) ∧
    ((w.alloc (.cells (madeCells #[.int .i64 0] n) T1)).alloc (.cells (madeCells #[.int .i64 0] n) T2)).rowIs (w.heap.size + 1) T2 n (ic fun _ => 0) := by
  refine ⟨((World.rowIs_made w _ n T1).of_block (heap_alloc_old _ _ (by simp))).congr (fun i _ => rfl), ?_⟩
  have h := World.rowIs_made (w.alloc (.cells (madeCells #[.int .i64 0] n) T1)) (.int .i64 0) n T2
  rw [show (w.alloc (.cells (madeCells #[.int .i64 0] n) T1)).heap.size = w.heap.size + 1 by simp] at h
  exact h.congr (fun i _ => rfl)

set_option maxHeartbeats 4000000 in
theorem i_CheapestFares (v : Value) (m : Nat) (a : Nat → ByteArray) (b c d : Nat → Int) (g1 n cq : Nat) (z : Nat → Int) (r0 : Int) (M : List ByteArray) (r2 : Int) (HA : ChAns m a b c d n z r0 M r2) (W : World) (hs : Sl W v 4 m (gc a b c d)) (hn : n ≤ 17592186044416) (hcq : n ≤ cq ∧ cq ≤ 9223372036854775807) (ht : Row W g1 0 n (ic z)) (hx : Hid (∀ i, i < m → ((a i).size : Int) ≤ 1048576)) :
    Calls Tryz.prog 6 #[v, .slice (some ⟨g1, 0, none⟩) n cq] W (ChPost r0 M r2 W) := by
  have HAT := Lib.hid (i_areTrips g1 n cq z W hn hcq ht)
  have HFR := Lib.hid (fun fine w (h : Sl w v 4 m (gc a b c d)) => i_fared v m a b c d fine (.slice none 0 0) 0 (fun _ => ⟨#[]⟩) w h hx ⟨by omega, none, 0, rfl, .inl rfl⟩)
  have HS := Lib.hid hs
  have HT := Lib.hid ht
  clear ht
  obtain ⟨hm, ao, cap, rfl, hr⟩ := hs
  have HR := Lib.hid hr
  clear hr
  unfold ChPost
  rcases HA with ⟨hv, rfl, rfl, rfl⟩ | ⟨hv, htr, rfl, rfl, rfl⟩ | ⟨hv, htr, hm0, hn0, rfl, rfl, rfl⟩ | ⟨hv, htr, hmn, L, P, HG, rfl, rfl, rfl⟩
  · have HF := Lib.hid (fun fine w h => by have := HFR.out fine w h; rwa [fcode_1 hv] at this)
    clear hv HFR
    go_enter Tryz.func6, Tryz.ntmps6
    go_wp2_with (first | (go_at_call 18; refine HAT.out.mono ?_; rintro e w1 ⟨rfl, hb1⟩) | (go_at_call 17; refine (HF.out _ _ (HS.out.kept hb1)).mono ?_; rintro e w2 ⟨rfl, hb2⟩))
    go_ret3
    exact ⟨_, rfl, kept_trans hb1 hb2, Out.nil _ _ _ _ _⟩
  · rw [htr] at HAT
    have HF := Lib.hid (fun w h => by have := HFR.out false w h; rwa [fcode_2 hv] at this)
    clear hv HFR
    go_enter Tryz.func6, Tryz.ntmps6
    go_wp2_with (first | (go_at_call 18; refine HAT.out.mono ?_; rintro e w1 ⟨rfl, hb1⟩) | (go_at_call 17; refine (HF.out _ (HS.out.kept hb1)).mono ?_; rintro e w2 ⟨rfl, hb2⟩))
    go_ret3
    exact ⟨_, rfl, kept_trans hb1 hb2, Out.nil _ _ _ _ _⟩
  · rw [htr] at HAT
    have HF := Lib.hid (fun w h => by have := HFR.out true w h; rwa [fcode_0 hv (fun i hi => absurd hi (by omega))] at this)
    clear hv HFR
    have hg1 : ((m : Int) == 0) = true := by simp; omega
    have hg2 : decide (0 < n) = true := by simp; omega
    clear hm0
    go_enter Tryz.func6, Tryz.ntmps6
    go_wp2_with (first | (go_at_call 18; refine HAT.out.mono ?_; rintro e w1 ⟨rfl, hb1⟩) | (go_at_call 17; refine (HF.out _ (HS.out.kept hb1)).mono ?_; rintro e w2 ⟨rfl, hb2⟩))
    all_goals first | omega | (go_ret3; exact ⟨_, rfl, kept_trans hb1 hb2, Out.nil _ _ _ _ _⟩)
  · rw [htr] at HAT
    have HF := Lib.hid (fun w h => by have := HFR.out true w h; rwa [fcode_0 hv (fun i hi => absurd hi (by omega))] at this)
    obtain ⟨h40, htA, hzb⟩ := trOk_out htr
    have HZ := Lib.hid hzb
    obtain ⟨hm8, hFB⟩ := vFares_FB hv
    have HFB := Lib.hid hFB
    have HBD := Lib.hid (HG.bd' hFB hmn h40)
    have HG := Lib.hid HG
    clear htA hzb htr hFB hv HFR
    have HPK : Hid (∀ i, i < n → ∃ j, pkF z b c d i (i + 1) m = some j) := fun i hi => pk_one HFB.out (by omega) i
    by_cases hn0 : 0 < n
    · have hg2 : ¬ m = 0 := by omega
      have hg3 : decide (0 < n) = true := by simp; omega
      have hg4 : ((m : Int) == 0) = false := by simp; omega
      clear hmn
      go_enter Tryz.func6, Tryz.ntmps6
      go_upto_region 7 with (first | (go_at_call 18; refine HAT.out.mono ?_; rintro e w1 ⟨rfl, hb1⟩) | (go_at_call 17; refine (HF.out _ (HS.out.kept hb1)).mono ?_; rintro e w2 ⟨rfl, hb2⟩))
      clear HAT HF hg3 hg4 hg2
      have hb := kept_trans hb1 hb2
      clear hb1 hb2
      go_cut [9, 10] (fun p q wx => ∃ (BL BP : Nat), p = .slice (some ⟨BL, 0, none⟩) (n + 1) (n + 1) ∧ q = .slice (some ⟨BP, 0, none⟩) (n + 1) (n + 1) ∧ Below W.heap.size W wx ∧ wx.rowIs BL 2 (n + 1) (ic fun _ => 0) ∧ wx.rowIs BP 3 (n + 1) (ic fun _ => 0) ∧ BL ≠ BP ∧ W.heap.size ≤ BL ∧ W.heap.size ≤ BP)
      case first =>
        have hmkL := fun w : World => run_make_row' (P := Tryz.prog) 25 2 (.int .i64 0) 8 Tryz.underlying25 infoInt rfl .i64 .i64 (n + 1) (by omega) (by omega) w
        have hmkP := fun w : World => run_make_row' (P := Tryz.prog) 49 3 (.int .i64 0) 8 Tryz.underlying49 infoGoInt rfl .i64 .i64 (n + 1) (by omega) (by omega) w
        have ecast : ((n + 1 : Nat) : Int) = (n : Int) + 1 := by omega
        simp only [ecast] at hmkL hmkP
        clear ecast
        have hsz := hb.size
        go_region
        all_goals
          go_wp2_with fail
          go_meet
          first
            | (refine ⟨w2.heap.size, w2.heap.size + 1, rfl, rfl, kept_drew (kept_alloc (kept_alloc hb _) _), ?_, ?_, by omega, by omega, by omega⟩; exact (made2 w2 (n + 1) 2 3).1; exact (made2 w2 (n + 1) 2 3).2)
            | (refine ⟨w2.heap.size + 1, w2.heap.size, rfl, rfl, kept_drew (kept_alloc (kept_alloc hb _) _), ?_, ?_, by omega, by omega, by omega⟩; exact (made2 w2 (n + 1) 3 2).2; exact (made2 w2 (n + 1) 3 2).1)
      case rest =>
        obtain ⟨BL, BP, rfl, rfl, hbc, rowL0, rowP0, hBB, hWL, hWP⟩ := hcut
        clear hb
        go_wp2_with fail
        go_loopw [11] (fun i wr2 => ∃ (e : Nat) (F G : Nat → Int), e ≤ n ∧ i = .int .i64 ((e : Int) - 1) ∧ Below W.heap.size W wr2 ∧ wr2.rowIs BL 2 (n + 1) (ic F) ∧ wr2.rowIs BP 3 (n + 1) (ic G) ∧ Hid (∀ j, e ≤ j → j ≤ n → F j = L j) ∧ Hid (∀ j, e ≤ j → j < n → G j = P j)) (fun i _ => (intOf i + 1).toNat)
        case atStart => exact ⟨n, _, _, Nat.le_refl _, rfl, hbc, rowL0, rowP0, fun j h1 h2 => by rw [show j = n by omega, HG.out.last], fun j h1 h2 => absurd h2 (by omega)⟩
        case round =>
          clear rowL0 rowP0 hbc
          obtain ⟨e, F, G, he, rfl, hb, hF, hG, HF, HGG⟩ := hrel
          by_cases he0 : 0 < e
          · obtain ⟨i, rfl⟩ : ∃ i, e = i + 1 := ⟨e - 1, by omega⟩
            have ei : (((i + 1 : Nat) : Int) - 1) = (i : Int) := by omega
            rw [ei]
            clear ei he0
            obtain ⟨j1, hj1⟩ := HPK.out i (by omega)
            have HX : Hid (pkF z b c d i (i + 1) m = some j1) := hj1
            clear hj1
            have HC : Hid (∀ (k : Nat) (w : World) (cp : Nat) (O : Option Nat), Below W.heap.size W w → i < k → k ≤ n → Hid (pkF z b c d i k m = O) → Calls Tryz.prog 19 #[.slice ao m cap, .slice (some ⟨g1, i, none⟩) (k - i) cp] w fun e W' => e = .returned (.tuple #[.agg #[.string (fvS a O), .int .i64 (fvI b O), .int .i64 (fvI c O), .int .i64 (fvI d O)], .bool O.isSome]) ∧ Below w.heap.size w W') := fun k w cp O hbw h1 h2 hO => by
              have hrow := (HT.out.kept hbw).sub (a := i) (m := k - i) (by omega)
              rw [Nat.zero_add] at hrow
              exact i_partFare (.slice ao m cap) m a b c d (.slice (some ⟨g1, i, none⟩) (k - i) cp) z i (k - i) w (HS.out.kept hbw) (Sl.of_row (by omega) (by rw [Nat.mul_one]; exact hrow)) (by omega) hm8 HFB (fun j h4 h5 => HZ.out j (by omega)) O (by rw [show i + (k - i) = k by omega]; exact hO)
            go_wp2_with fail
            go_loopw [12] (fun kv wr2 => ∃ (k : Nat) (F2 G2 : Nat → Int) (p : Nat), i ≤ k ∧ k ≤ n ∧ kv = .int .i64 ((k : Int) + 1) ∧ Below W.heap.size W wr2 ∧ wr2.rowIs BL 2 (n + 1) (ic F2) ∧ wr2.rowIs BP 3 (n + 1) (ic G2) ∧ Hid (∀ j, i < j → j ≤ n → F2 j = L j) ∧ Hid (∀ j, i < j → j < n → G2 j = P j) ∧ Hid (k = i ∨ (i < k ∧ Best (partV z b c d m L i) i k (F2 i) p ∧ G2 i = p))) (fun kv _ => (n + 1 - (intOf kv).toNat))
            case atStart => exact ⟨i, _, _, 0, Nat.le_refl _, by omega, rfl, hb, hF, hG, fun j h1 h2 => HF.out j (by omega) h2, fun j h1 h2 => HGG.out j (by omega) h2, .inl rfl⟩
            case round =>
              clear hF hG hb HF HGG
              obtain ⟨k, F2, G2, p, hik, hkn, rfl, hb, hF, hG, HF, HGG, HBE⟩ := hrel
              by_cases hki : k < n
              · obtain ⟨O, hO⟩ : ∃ O, Hid (pkF z b c d i (k + 1) m = O) := ⟨_, rfl⟩
                have HCk := Lib.hid (fun cp => HC.out (k + 1) wr cp O hb (by omega) hki hO)
                have hin : ¬ n = i := by omega
                have hk1 : (k : Int) < (n : Int) := by omega
                have hk2 : (0 : Int) ≤ (k : Int) + 1 := by omega
                have hk3 : ((k : Int) + 1).toNat = k + 1 := by omega
                have hk4 : (k : Int) + 1 < (n : Int) + 1 := by omega
                have hk5 : (i : Int) < (n : Int) + 1 := by omega
                have hk6 : (i : Int) ≤ (k : Int) + 1 := by omega
                have hk7 : (k : Int) + 1 ≤ (n : Int) := by omega
                cases O with
                | none =>
                  have hki2 : i < k := by
                    by_cases e : k = i
                    · exfalso; have h1 := hO.out; rw [e, HX.out] at h1; cases h1
                    · omega
                  have HV : Hid (partV z b c d m L i (k + 1) = none) := by show _ = _; unfold partV; rw [hO.out]; rfl
                  have HBE' : Hid (k + 1 = i ∨ (i < k + 1 ∧ Best (partV z b c d m L i) i (k + 1) (F2 i) p ∧ G2 i = p)) := by
                    rcases HBE.out with h | ⟨-, h1, h2⟩
                    · omega
                    · exact .inr ⟨by omega, h1.up_none HV.out, h2⟩
                  clear hO HV HBE
                  go_wp2_with (go_at_call 19; refine (HCk.out _).mono ?_; rintro e w2 ⟨rfl, hb2⟩)
                  go_quiet (fail)
                  go_wp2_with fail
                  go_roundw
                  case rel => exact ⟨k + 1, F2, G2, p, by omega, by omega, by go_num, kept_drewN (kept_alloc (kept_trans hb hb2) _) _, row_kept hF (kept_drewN (kept_alloc hb2 _) _), row_kept hG (kept_drewN (kept_alloc hb2 _) _), HF, HGG, HBE'⟩
                  case measure => simp [intOf] <;> omega
                | some j =>
                  have HV : Hid (partV z b c d m L i (k + 1) = some (b j + F2 (k + 1))) := by show _ = _; unfold partV; rw [hO.out, HF.out (k + 1) (by omega) (by omega)]; rfl
                  have hjm := pkF_lt hO.out
                  have hbj := (HFB.out j hjm).1
                  have hLk := HBD.out (k + 1) (by omega)
                  rw [← HF.out (k + 1) (by omega) (by omega)] at hLk
                  clear hO
                  go_wp2_with (go_at_call 19; refine (HCk.out _).mono ?_; rintro e w2 ⟨rfl, hb2⟩)
                  have KX := kept_alloc hb2 (.cells #[.string (fvS a (some j)), .int .i64 (fvI b (some j)), .int .i64 (fvI c (some j)), .int .i64 (fvI d (some j))] 32)
                  have hF2 := row_kept hF KX
                  have hG2 := row_kept hG KX
                  have fi := hF2.cell (i := i) (by omega)
                  have fk := hF2.cell (i := k + 1) (by omega)
                  simp only [ic] at fi fk
                  have x1 : (w2.alloc (.cells #[.string (fvS a (some j)), .int .i64 (fvI b (some j)), .int .i64 (fvI c (some j)), .int .i64 (fvI d (some j))] 32)).cell? ⟨w2.heap.size, 1, none⟩ = some (.int .i64 (b j)) := boxed_at rfl rfl
                  clear HCk
                  have hbx := kept_trans hb KX
                  clear KX hb2 hb
                  obtain ⟨x, hx0⟩ : ∃ x, F2 i = x := ⟨_, rfl⟩
                  obtain ⟨y, hy0⟩ : ∃ y, F2 (k + 1) = y := ⟨_, rfl⟩
                  rw [hx0] at fi HBE
                  rw [hy0] at fk HV hLk
                  clear hy0
                  have e1 : IntKind.i64.wrap (b j + y) = b j + y := IntWalk.i64_in _ (by omega)
                  by_cases hxn : k = i
                  · have hnb : (((k : Int) + 1) == ((i : Int) + 1)) = true := by simp; omega
                    have hnc : ((k : Int) == (i : Int)) = true := by simp; omega
                    have HBE' : Hid (k + 1 = i ∨ (i < k + 1 ∧ Best (partV z b c d m L i) i (k + 1) (b j + y) (k + 1) ∧ ((k : Int) + 1) = ((k + 1 : Nat) : Int))) := .inr ⟨by omega, by subst hxn; exact Best.one HV.out, by omega⟩
                    clear hx0 HBE HV hxn
                    go_quiet (fail)
                    clear hnb hnc
                    go_wp2_with fail
                    have hF5 := row_kept hF2 (kept_drewN (Below.refl _ _) nq)
                    have hG5 := row_kept hG2 (kept_drewN (Below.refl _ _) nq)
                    have x5 := cell_keep (kept_drewN (Below.refl _ _) nq) x1
                    have fk5 := cell_keep (kept_drewN (Below.refl _ _) nq) fk
                    have fi5 := cell_keep (kept_drewN (Below.refl _ _) nq) fi
                    have hb5 := kept_drewN hbx nq
                    clear hF2 hG2 x1 fk fi hbx hF hG
                    generalize (w2.alloc (.cells #[.string (fvS a (some j)), .int .i64 (fvI b (some j)), .int .i64 (fvI c (some j)), .int .i64 (fvI d (some j))] 32)).drewN nq = w5 at *
                    have K6 : Below w5.heap.size w5 w5.drew := kept_drew (Below.refl _ _)
                    have s6 := cell_keep K6 x5
                    have fk6 := cell_keep K6 fk5
                    have fi6 := cell_keep K6 fi5
                    have hF6 := row_kept hF5 K6
                    have hG6 := row_kept hG5 K6
                    have zi6 := hF6.frozen i
                    have RS := Lib.hid (row_upd hF6 i (b j + y))
                    have RG := row_other (i := i) (u := .int .i64 (b j + y)) hG6 (show BP ≠ BL by omega)
                    have gi := hG5.cell (i := i) (by omega)
                    have zg := hG5.frozen i
                    have zf5 := hF5.frozen i
                    simp only [ic] at gi
                    have RS2 := Lib.hid (row_other (i := i) (u := .int .i64 ((k : Int) + 1)) RS.out hBB)
                    have RG2 := Lib.hid (row_upd RG i ((k : Int) + 1))
                    have RB := Lib.hid (kept_set (kept_set (kept_trans hb5 K6) (p := ⟨BL, i, none⟩) hWL (.int .i64 (b j + y))) (p := ⟨BP, i, none⟩) hWP (.int .i64 ((k : Int) + 1)))
                    clear K6 hF6 hG6 hF5 hG5 hb5 RG RS
                    go_region
                    all_goals
                      go_wp2_with fail
                      go_roundw
                      case rel =>
                        refine ⟨k + 1, _, _, k + 1, by omega, by omega, by go_num, RB.out, RS2.out, RG2.out, fun j' h1 h2 => ?_, fun j' h1 h2 => ?_, ?_⟩
                        · rw [upd_ne (by omega)]; exact HF.out j' h1 h2
                        · rw [upd_ne (by omega)]; exact HGG.out j' h1 h2
                        · rw [upd_at, upd_at]; exact HBE'.out
                      case measure => simp [intOf] <;> omega
                  · have hki2 : i < k := by omega
                    have hne : ¬ (k : Int) + 1 = (i : Int) + 1 := by omega
                    have hnb : (((k : Int) + 1) == ((i : Int) + 1)) = false := by simp; omega
                    have hnc : ((k : Int) == (i : Int)) = false := by simp; omega
                    have hnd : ¬ (k : Int) = (i : Int) := by omega
                    by_cases hlt : b j + y ≤ x
                    · have d3 : decide (b j + y ≤ x) = true := by simp; omega
                      have HBE' : Hid (k + 1 = i ∨ (i < k + 1 ∧ Best (partV z b c d m L i) i (k + 1) (b j + y) (k + 1) ∧ ((k : Int) + 1) = ((k + 1 : Nat) : Int))) := by
                        rcases HBE.out with h | ⟨-, h1, h2⟩
                        · omega
                        · exact .inr ⟨by omega, h1.up_take HV.out hlt, by omega⟩
                      clear hx0 HBE HV hxn
                      go_quiet (fail)
                      clear d3 hne hnb hnc hnd
                      go_wp2_with fail
                      have hF5 := row_kept hF2 (kept_drewN (Below.refl _ _) nq)
                      have hG5 := row_kept hG2 (kept_drewN (Below.refl _ _) nq)
                      have x5 := cell_keep (kept_drewN (Below.refl _ _) nq) x1
                      have fk5 := cell_keep (kept_drewN (Below.refl _ _) nq) fk
                      have fi5 := cell_keep (kept_drewN (Below.refl _ _) nq) fi
                      have hb5 := kept_drewN hbx nq
                      clear hF2 hG2 x1 fk fi hbx hF hG
                      generalize (w2.alloc (.cells #[.string (fvS a (some j)), .int .i64 (fvI b (some j)), .int .i64 (fvI c (some j)), .int .i64 (fvI d (some j))] 32)).drewN nq = w5 at *
                      have K6 : Below w5.heap.size w5 w5.drew := kept_drew (Below.refl _ _)
                      have s6 := cell_keep K6 x5
                      have fk6 := cell_keep K6 fk5
                      have fi6 := cell_keep K6 fi5
                      have hF6 := row_kept hF5 K6
                      have hG6 := row_kept hG5 K6
                      have zi6 := hF6.frozen i
                      have RS := Lib.hid (row_upd hF6 i (b j + y))
                      have RG := row_other (i := i) (u := .int .i64 (b j + y)) hG6 (show BP ≠ BL by omega)
                      have gi := hG5.cell (i := i) (by omega)
                      have zg := hG5.frozen i
                      have zf5 := hF5.frozen i
                      simp only [ic] at gi
                      have RS2 := Lib.hid (row_other (i := i) (u := .int .i64 ((k : Int) + 1)) RS.out hBB)
                      have RG2 := Lib.hid (row_upd RG i ((k : Int) + 1))
                      have RB := Lib.hid (kept_set (kept_set (kept_trans hb5 K6) (p := ⟨BL, i, none⟩) hWL (.int .i64 (b j + y))) (p := ⟨BP, i, none⟩) hWP (.int .i64 ((k : Int) + 1)))
                      clear K6 hF6 hG6 hF5 hG5 hb5 RG RS
                      go_region
                      all_goals
                        go_wp2_with fail
                        go_roundw
                        case rel =>
                          refine ⟨k + 1, _, _, k + 1, by omega, by omega, by go_num, RB.out, RS2.out, RG2.out, fun j' h1 h2 => ?_, fun j' h1 h2 => ?_, ?_⟩
                          · rw [upd_ne (by omega)]; exact HF.out j' h1 h2
                          · rw [upd_ne (by omega)]; exact HGG.out j' h1 h2
                          · rw [upd_at, upd_at]; exact HBE'.out
                        case measure => simp [intOf] <;> omega
                    · have d3 : decide (b j + y ≤ x) = false := by simp; omega
                      have HBE' : Hid (k + 1 = i ∨ (i < k + 1 ∧ Best (partV z b c d m L i) i (k + 1) x p ∧ G2 i = p)) := by
                        rcases HBE.out with h | ⟨-, h1, h2⟩
                        · omega
                        · exact .inr ⟨by omega, h1.up_keep HV.out (by omega), h2⟩
                      rw [← hx0] at HBE'
                      clear HV HBE hx0 hxn
                      go_quiet (fail)
                      clear e1 d3 hne hnb hnc hnd
                      go_wp2_with fail
                      go_roundw
                      case rel => exact ⟨k + 1, F2, G2, p, by omega, by omega, by go_num, kept_drewN hbx _, row_kept hF2 (kept_drewN (Below.refl _ _) _), row_kept hG2 (kept_drewN (Below.refl _ _) _), HF, HGG, HBE'⟩
                      case measure => simp [intOf] <;> omega
              · obtain rfl : n = k := by omega
                have hbe : i < n ∧ Best (partV z b c d m L i) i n (F2 i) p ∧ G2 i = p := by
                  rcases HBE.out with h | h
                  · omega
                  · exact h
                obtain ⟨-, hbest, hgp⟩ := hbe
                obtain ⟨e1, e2⟩ := hbest.uniq (HG.out.best i (by omega))
                have HF' : Hid (∀ j, i ≤ j → j ≤ n → F2 j = L j) := fun j h1 h2 => by
                  by_cases e : j = i
                  · rw [e]; exact e1
                  · exact HF.out j (by omega) h2
                have HGG' : Hid (∀ j, i ≤ j → j < n → G2 j = P j) := fun j h1 h2 => by
                  by_cases e : j = i
                  · rw [e, hgp, e2]
                  · exact HGG.out j (by omega) h2
                clear hbest e1 e2 hgp HF HGG HBE HX HC
                go_wp2_with fail
                go_roundw
                case rel => exact ⟨i, F2, G2, by omega, by go_num, hb, hF, hG, HF', HGG'⟩
                case measure => simp [intOf] <;> omega
          · obtain rfl : e = 0 := by omega
            have HF0 : Hid (F 0 = L 0) := HF.out 0 (Nat.le_refl _) (Nat.zero_le _)
            have HGG := Lib.hid (fun j h => HGG.out j (Nat.zero_le _) h)
            have hG1 := hG.lt
            have ez : (((0 : Nat) : Int) - 1) = -1 := rfl
            rw [ez]
            clear ez he0 he HF
            generalize wr = w0 at *
            have hGw := Lib.hid hG
            have hFw := Lib.hid hF
            have hbw := Lib.hid hb
            clear hG hF hb
            obtain ⟨i0, hi, hz0, hz1, hz2⟩ := info_parts infoStrC
            go_wp2_with fail
            go_loopw [15, 16] (fun o iv wr2 => ∃ (t : Nat) (x : Value) (Ls : List ByteArray), stF P t ≤ n ∧ t ≤ stF P t ∧ iv = .int .i64 (stF P t) ∧ x = o ∧ Below w0.heap.size w0 wr2 ∧ Ls.length = t ∧ Hid (idF a (fun i k => pkF z b c d i k m) P t = Ls) ∧ Out wr2 w0.heap.size 9 1 x Ls.length (sc (tl Ls)) ∧ Hid (∀ s, s < t → stF P s < n)) (fun _ iv _ => n - (intOf iv).toNat)
            case atStart => exact ⟨0, _, [], by rw [stF_zero]; omega, Nat.zero_le _, by rw [stF_zero]; rfl, rfl, Below.refl _ _, rfl, idF_zero _ _ _, Out.nil _ _ _ _ _, fun s h => absurd h (by omega)⟩
            case round =>
              obtain ⟨t, x, Ls, hst, hts, rfl, rfl, hb, hLt, hLs, hown, hno⟩ := hrel
              obtain ⟨s, hs⟩ : ∃ s, stF P t = s := ⟨_, rfl⟩
              rw [hs] at hst hts ⊢
              by_cases hsn : s < n
              · have hpos := HG.out.best s hsn
                obtain ⟨j, hjm, hpk, -⟩ := partV_some hpos.at_
                have hlo := hpos.lo
                have hhi := hpos.hi
                have HS1 : Hid (stF P (t + 1) = P s) := by show _ = _; rw [stF_succ, hs]
                have HI1 : Hid (idF a (fun i k => pkF z b c d i k m) P (t + 1) = Ls ++ [a j]) := by show _ = _; rw [idF_succ, hs, hLs.out, hpk]; rfl
                have HN : Hid (∀ s', s' < t + 1 → stF P s' < n) := fun s' h => by
                  by_cases e : s' = t
                  · rw [e, hs]; exact hsn
                  · exact hno.out s' (by omega)
                have HC : Hid (∀ (w : World) (cp : Nat), Below W.heap.size W w → Calls Tryz.prog 19 #[.slice ao m cap, .slice (some ⟨g1, s, none⟩) (P s - s) cp] w fun e W' => e = .returned (.tuple #[.agg #[.string (a j), .int .i64 (b j), .int .i64 (c j), .int .i64 (d j)], .bool true]) ∧ Below w.heap.size w W') := fun w cp hbw => by
                  have hrow := (HT.out.kept hbw).sub (a := s) (m := P s - s) (by omega)
                  rw [Nat.zero_add] at hrow
                  exact i_partFare (.slice ao m cap) m a b c d (.slice (some ⟨g1, s, none⟩) (P s - s) cp) z s (P s - s) w (HS.out.kept hbw) (Sl.of_row (by omega) (by rw [Nat.mul_one]; exact hrow)) (by omega) hm8 HFB (fun j h4 h5 => HZ.out j (by omega)) (some j) (by rw [show s + (P s - s) = P s by omega]; exact hpk)
                have HCk := Lib.hid (fun cp => HC.out wr cp (kept_trans hbw.out hb))
                have gi0 := hGw.out.cell (i := s) (by omega)
                simp only [ic] at gi0
                rw [HGG.out s hsn] at gi0
                have gi := cell_keep hb gi0
                generalize P s = p at *
                have hcn : ¬ n = s := by omega
                have hk1 : (s : Int) ≤ (p : Int) := by omega
                have hk2 : (p : Int) ≤ (n : Int) := by omega
                have hk3 : (s : Int) < (n : Int) + 1 := by omega
                have hLn : Ls.length ≤ 40 := by omega
                clear HC hpos hpk hno hs hLs
                go_wp2_with (first
                  | (at_builtin; have hmk := hb2; refine wpList_append_own _ rfl _ _ 28 rfl _ 9 i0 _ 1 16 Tryz.underlying28 hi hz0 hz1 hz2 rfl (by decide) _ _ _ rfl (ownB.out.row.alloc _) ⟨w2.heap.size + 1, 0, none⟩ 1 1 [.string (a j)] rfl rfl (laid_at (by simp)) (by intro u hu; simp at hu; subst hu; rfl) (by simp only [maxLen]; omega) (by omega) (by have hbs := hbB.size; simp at hbs ⊢; omega) ?_; intro v1 w3 hown1 hgrow1 _; have R2 := below_of_append hbB ownB.out.row hgrow1; have gi3 := cell_keep R2 gi0)
                  | (go_at_call 19; refine (HCk.out _).mono ?_; rintro e w2 ⟨rfl, hb2⟩; have KX := kept_alloc hb2 (.cells #[.string (a j), .int .i64 (b j), .int .i64 (c j), .int .i64 (d j)] 32); have x0 : (w2.alloc (.cells #[.string (a j), .int .i64 (b j), .int .i64 (c j), .int .i64 (d j)] 32)).cell? ⟨w2.heap.size, 0, none⟩ = some (.string (a j)) := boxed_at rfl rfl; have ownB := Lib.hid (hown.kept KX); have hbB := kept_trans hb KX))
                have R1 := Lib.hid (Out.snocT hown1)
                clear ownB hown hown1 hgrow1 hbB hb hb2 KX x0 gi gi0
                go_roundw
                case rel => exact ⟨t + 1, v1, Ls ++ [a j], by rw [HS1.out]; omega, by rw [HS1.out]; omega, by rw [HS1.out], rfl, R2, by simp; omega, HI1.out, R1.out, HN⟩
                case measure => simp [intOf] <;> omega
              · have hT : endF P n = t := endF_eq (by omega) hno.out (by rw [hs]; omega)
                have hM : Hid (idF a (fun i k => pkF z b c d i k m) P (endF P n) = Ls) := by rw [hT]; exact hLs
                have f00 := (row_kept hFw.out hb).cell (i := 0) (by omega)
                simp only [ic] at f00
                clear hno hs hLs
                go_wp2_with fail
                go_ret3
                refine ⟨x, by rw [HF0.out]; rfl, kept_trans hbw.out hb, ?_⟩
                rw [hM.out]
                exact hown.base_le' hbw.out.size
    · have hg3 : decide (0 < n) = false := by simp; omega
      have HN0 : Hid (n ≤ 0) := by show _ ≤ _; omega
      clear hn0 hmn
      cases hg4 : ((m : Int) == 0)
      · go_enter Tryz.func6, Tryz.ntmps6
        go_upto_region 7 with (first | (go_at_call 18; refine HAT.out.mono ?_; rintro e w1 ⟨rfl, hb1⟩) | (go_at_call 17; refine (HF.out _ (HS.out.kept hb1)).mono ?_; rintro e w2 ⟨rfl, hb2⟩))
        clear HAT HF hg3 hg4
        have hb := kept_trans hb1 hb2
        clear hb1 hb2
        go_cut [9, 10] (fun p q wx => ∃ (BL BP : Nat), p = .slice (some ⟨BL, 0, none⟩) (n + 1) (n + 1) ∧ q = .slice (some ⟨BP, 0, none⟩) (n + 1) (n + 1) ∧ Below W.heap.size W wx ∧ wx.rowIs BL 2 (n + 1) (ic fun _ => 0) ∧ wx.rowIs BP 3 (n + 1) (ic fun _ => 0) ∧ BL ≠ BP ∧ W.heap.size ≤ BL ∧ W.heap.size ≤ BP)
        case first =>
          have hmkL := fun w : World => run_make_row' (P := Tryz.prog) 25 2 (.int .i64 0) 8 Tryz.underlying25 infoInt rfl .i64 .i64 (n + 1) (by omega) (by omega) w
          have hmkP := fun w : World => run_make_row' (P := Tryz.prog) 49 3 (.int .i64 0) 8 Tryz.underlying49 infoGoInt rfl .i64 .i64 (n + 1) (by omega) (by omega) w
          have ecast : ((n + 1 : Nat) : Int) = (n : Int) + 1 := by omega
          simp only [ecast] at hmkL hmkP
          clear ecast
          have hsz := hb.size
          go_region
          all_goals
            go_wp2_with fail
            go_meet
            first
              | (refine ⟨w2.heap.size, w2.heap.size + 1, rfl, rfl, kept_drew (kept_alloc (kept_alloc hb _) _), ?_, ?_, by omega, by omega, by omega⟩; exact (made2 w2 (n + 1) 2 3).1; exact (made2 w2 (n + 1) 2 3).2)
              | (refine ⟨w2.heap.size + 1, w2.heap.size, rfl, rfl, kept_drew (kept_alloc (kept_alloc hb _) _), ?_, ?_, by omega, by omega, by omega⟩; exact (made2 w2 (n + 1) 3 2).2; exact (made2 w2 (n + 1) 3 2).1)
        case rest =>
          obtain ⟨BL, BP, rfl, rfl, hbc, rowL0, rowP0, hBB, hWL, hWP⟩ := hcut
          clear hb
          go_wp2_with fail
          go_loopw [11] (fun i wr2 => ∃ (e : Nat) (F G : Nat → Int), e ≤ n ∧ i = .int .i64 ((e : Int) - 1) ∧ Below W.heap.size W wr2 ∧ wr2.rowIs BL 2 (n + 1) (ic F) ∧ wr2.rowIs BP 3 (n + 1) (ic G) ∧ Hid (∀ j, e ≤ j → j ≤ n → F j = L j) ∧ Hid (∀ j, e ≤ j → j < n → G j = P j)) (fun i _ => (intOf i + 1).toNat)
          case atStart => exact ⟨n, _, _, Nat.le_refl _, rfl, hbc, rowL0, rowP0, fun j h1 h2 => by rw [show j = n by omega, HG.out.last], fun j h1 h2 => absurd h2 (by omega)⟩
          case round =>
            clear rowL0 rowP0 hbc
            obtain ⟨e, F, G, he, rfl, hb, hF, hG, HF, HGG⟩ := hrel
            by_cases he0 : 0 < e
            · have := HN0.out; omega
            · obtain rfl : e = 0 := by omega
              have HF0 : Hid (F 0 = L 0) := HF.out 0 (Nat.le_refl _) (Nat.zero_le _)
              have HGG := Lib.hid (fun j h => HGG.out j (Nat.zero_le _) h)
              have hG1 := hG.lt
              have ez : (((0 : Nat) : Int) - 1) = -1 := rfl
              rw [ez]
              clear ez he0 he HF
              generalize wr = w0 at *
              have hGw := Lib.hid hG
              have hFw := Lib.hid hF
              have hbw := Lib.hid hb
              clear hG hF hb
              obtain ⟨i0, hi, hz0, hz1, hz2⟩ := info_parts infoStrC
              go_wp2_with fail
              go_loopw [15, 16] (fun o iv wr2 => ∃ (t : Nat) (x : Value) (Ls : List ByteArray), stF P t ≤ n ∧ t ≤ stF P t ∧ iv = .int .i64 (stF P t) ∧ x = o ∧ Below w0.heap.size w0 wr2 ∧ Ls.length = t ∧ Hid (idF a (fun i k => pkF z b c d i k m) P t = Ls) ∧ Out wr2 w0.heap.size 9 1 x Ls.length (sc (tl Ls)) ∧ Hid (∀ s, s < t → stF P s < n)) (fun _ iv _ => n - (intOf iv).toNat)
              case atStart => exact ⟨0, _, [], by rw [stF_zero]; omega, Nat.zero_le _, by rw [stF_zero]; rfl, rfl, Below.refl _ _, rfl, idF_zero _ _ _, Out.nil _ _ _ _ _, fun s h => absurd h (by omega)⟩
              case round =>
                obtain ⟨t, x, Ls, hst, hts, rfl, rfl, hb, hLt, hLs, hown, hno⟩ := hrel
                obtain ⟨s, hs⟩ : ∃ s, stF P t = s := ⟨_, rfl⟩
                rw [hs] at hst hts ⊢
                by_cases hsn : s < n
                · have := HN0.out; omega
                · have hT : endF P n = t := endF_eq (by omega) hno.out (by rw [hs]; omega)
                  have hM : Hid (idF a (fun i k => pkF z b c d i k m) P (endF P n) = Ls) := by rw [hT]; exact hLs
                  have f00 := (row_kept hFw.out hb).cell (i := 0) (by omega)
                  simp only [ic] at f00
                  clear hno hs hLs
                  go_wp2_with fail
                  go_ret3
                  refine ⟨x, by rw [HF0.out]; rfl, kept_trans hbw.out hb, ?_⟩
                  rw [hM.out]
                  exact hown.base_le' hbw.out.size
      · go_enter Tryz.func6, Tryz.ntmps6
        go_upto_region 7 with (first | (go_at_call 18; refine HAT.out.mono ?_; rintro e w1 ⟨rfl, hb1⟩) | (go_at_call 17; refine (HF.out _ (HS.out.kept hb1)).mono ?_; rintro e w2 ⟨rfl, hb2⟩))
        clear HAT HF hg3 hg4
        have hb := kept_trans hb1 hb2
        clear hb1 hb2
        go_cut [9, 10] (fun p q wx => ∃ (BL BP : Nat), p = .slice (some ⟨BL, 0, none⟩) (n + 1) (n + 1) ∧ q = .slice (some ⟨BP, 0, none⟩) (n + 1) (n + 1) ∧ Below W.heap.size W wx ∧ wx.rowIs BL 2 (n + 1) (ic fun _ => 0) ∧ wx.rowIs BP 3 (n + 1) (ic fun _ => 0) ∧ BL ≠ BP ∧ W.heap.size ≤ BL ∧ W.heap.size ≤ BP)
        case first =>
          have hmkL := fun w : World => run_make_row' (P := Tryz.prog) 25 2 (.int .i64 0) 8 Tryz.underlying25 infoInt rfl .i64 .i64 (n + 1) (by omega) (by omega) w
          have hmkP := fun w : World => run_make_row' (P := Tryz.prog) 49 3 (.int .i64 0) 8 Tryz.underlying49 infoGoInt rfl .i64 .i64 (n + 1) (by omega) (by omega) w
          have ecast : ((n + 1 : Nat) : Int) = (n : Int) + 1 := by omega
          simp only [ecast] at hmkL hmkP
          clear ecast
          have hsz := hb.size
          go_region
          all_goals
            go_wp2_with fail
            go_meet
            first
              | (refine ⟨w2.heap.size, w2.heap.size + 1, rfl, rfl, kept_drew (kept_alloc (kept_alloc hb _) _), ?_, ?_, by omega, by omega, by omega⟩; exact (made2 w2 (n + 1) 2 3).1; exact (made2 w2 (n + 1) 2 3).2)
              | (refine ⟨w2.heap.size + 1, w2.heap.size, rfl, rfl, kept_drew (kept_alloc (kept_alloc hb _) _), ?_, ?_, by omega, by omega, by omega⟩; exact (made2 w2 (n + 1) 3 2).2; exact (made2 w2 (n + 1) 3 2).1)
        case rest =>
          obtain ⟨BL, BP, rfl, rfl, hbc, rowL0, rowP0, hBB, hWL, hWP⟩ := hcut
          clear hb
          go_wp2_with fail
          go_loopw [11] (fun i wr2 => ∃ (e : Nat) (F G : Nat → Int), e ≤ n ∧ i = .int .i64 ((e : Int) - 1) ∧ Below W.heap.size W wr2 ∧ wr2.rowIs BL 2 (n + 1) (ic F) ∧ wr2.rowIs BP 3 (n + 1) (ic G) ∧ Hid (∀ j, e ≤ j → j ≤ n → F j = L j) ∧ Hid (∀ j, e ≤ j → j < n → G j = P j)) (fun i _ => (intOf i + 1).toNat)
          case atStart => exact ⟨n, _, _, Nat.le_refl _, rfl, hbc, rowL0, rowP0, fun j h1 h2 => by rw [show j = n by omega, HG.out.last], fun j h1 h2 => absurd h2 (by omega)⟩
          case round =>
            clear rowL0 rowP0 hbc
            obtain ⟨e, F, G, he, rfl, hb, hF, hG, HF, HGG⟩ := hrel
            by_cases he0 : 0 < e
            · have := HN0.out; omega
            · obtain rfl : e = 0 := by omega
              have HF0 : Hid (F 0 = L 0) := HF.out 0 (Nat.le_refl _) (Nat.zero_le _)
              have HGG := Lib.hid (fun j h => HGG.out j (Nat.zero_le _) h)
              have hG1 := hG.lt
              have ez : (((0 : Nat) : Int) - 1) = -1 := rfl
              rw [ez]
              clear ez he0 he HF
              generalize wr = w0 at *
              have hGw := Lib.hid hG
              have hFw := Lib.hid hF
              have hbw := Lib.hid hb
              clear hG hF hb
              obtain ⟨i0, hi, hz0, hz1, hz2⟩ := info_parts infoStrC
              go_wp2_with fail
              go_loopw [15, 16] (fun o iv wr2 => ∃ (t : Nat) (x : Value) (Ls : List ByteArray), stF P t ≤ n ∧ t ≤ stF P t ∧ iv = .int .i64 (stF P t) ∧ x = o ∧ Below w0.heap.size w0 wr2 ∧ Ls.length = t ∧ Hid (idF a (fun i k => pkF z b c d i k m) P t = Ls) ∧ Out wr2 w0.heap.size 9 1 x Ls.length (sc (tl Ls)) ∧ Hid (∀ s, s < t → stF P s < n)) (fun _ iv _ => n - (intOf iv).toNat)
              case atStart => exact ⟨0, _, [], by rw [stF_zero]; omega, Nat.zero_le _, by rw [stF_zero]; rfl, rfl, Below.refl _ _, rfl, idF_zero _ _ _, Out.nil _ _ _ _ _, fun s h => absurd h (by omega)⟩
              case round =>
                obtain ⟨t, x, Ls, hst, hts, rfl, rfl, hb, hLt, hLs, hown, hno⟩ := hrel
                obtain ⟨s, hs⟩ : ∃ s, stF P t = s := ⟨_, rfl⟩
                rw [hs] at hst hts ⊢
                by_cases hsn : s < n
                · have := HN0.out; omega
                · have hT : endF P n = t := endF_eq (by omega) hno.out (by rw [hs]; omega)
                  have hM : Hid (idF a (fun i k => pkF z b c d i k m) P (endF P n) = Ls) := by rw [hT]; exact hLs
                  have f00 := (row_kept hFw.out hb).cell (i := 0) (by omega)
                  simp only [ic] at f00
                  clear hno hs hLs
                  go_wp2_with fail
                  go_ret3
                  refine ⟨x, by rw [HF0.out]; rfl, kept_trans hbw.out hb, ?_⟩
                  rw [hM.out]
                  exact hown.base_le' hbw.out.size

end Go.Proofs.YtjmklkhdemolmaaGreatDoor
