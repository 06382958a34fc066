/- The rides of groups, one after the other: the program, and the law. -/
import Derived.Test.YtfnollbeeehpnaaFirst
import Derived.Below
import Derived.OneCell
import Derived.Deep.AppendLies
namespace Go.Proofs.Ytfnollbeeehpnaa
open Go.RowKit Go.Deep
set_option linter.unusedVariables false
set_option maxRecDepth 100000

theorem Out.setb {w : World} {B k n : Nat} {e : TypeId} {v : Value} {f : Nat → Value} (h : Out w B e k v n f) {a : Addr} (ha : a.block < B) (u : Value) : Out (w.setCell a u) B e k v n f := ownsRow_setCell_below h ha u
theorem allTo_bigs {fit : Nat → Bool} {a : Nat → ByteArray} {n : Nat} : (allTo fit n = true → (bigs fit a n).length = 0) ∧ (allTo fit n = false → 0 < (bigs fit a n).length) := by
  constructor
  · intro h; exact bigs_all (allTo_out h)
  · intro h
    by_cases h0 : (bigs fit a n).length = 0
    · rw [allTo_yes (bigs_none h0)] at h; cases h
    · omega

theorem Out.seta {w : World} {B k n : Nat} {e : TypeId} {v : Value} {f : Nat → Value} (h : Out w B e k v n f) {p : Addr} (hp : v.ownBlock ≠ some p.block) (u : Value) : Out (w.setCell p u) B e k v n f := ownsRow_setCell_other h hp u
theorem RoomAt.far {w w1 : World} {g : Nat} {x y z : Int} {row : Option Nat} (h : RoomAt w g x y z) (hg : w.grownBy w1 row) (hne : some g ≠ row) : RoomAt w1 g x y z := by
  obtain ⟨hl, h0, h1, h2, hf⟩ := h
  exact ⟨Nat.lt_of_lt_of_le hl hg.size, (hg.cell_far ⟨g, 0, none⟩ hl hne).trans h0, (hg.cell_far ⟨g, 1, none⟩ hl hne).trans h1, (hg.cell_far ⟨g, 2, none⟩ hl hne).trans h2, fun i => (hg.frozen_far ⟨g, i, none⟩ hl hne).trans (hf i)⟩
theorem RoomAt.other {w : World} {g : Nat} {x y z : Int} (h : RoomAt w g x y z) {p : Addr} (hp : ¬ p.block = g) (u : Value) : RoomAt (w.setCell p u) g x y z := by
  obtain ⟨hl, h0, h1, h2, hf⟩ := h
  exact ⟨by simpa using hl, (World.cell?_setCell_other _ _ _ _ (fun e => hp (by rw [e]))).trans h0, (World.cell?_setCell_other _ _ _ _ (fun e => hp (by rw [e]))).trans h1, (World.cell?_setCell_other _ _ _ _ (fun e => hp (by rw [e]))).trans h2, fun i => by simpa using hf i⟩
theorem Out.zero_form {w : World} {B k n : Nat} {e : TypeId} {v : Value} {f : Nat → Value} (h : Out w B e k v n f) (hn : n = 0) : ∃ gg gcap, v = .slice gg 0 gcap := by
  subst hn
  rcases h.2 with ⟨h0, -⟩ | ⟨gg, gcap, cur, h0, -⟩
  · exact ⟨_, _, h0⟩
  · exact ⟨_, _, h0⟩

set_option maxHeartbeats 3200000 in
theorem i_FirstRides (v : Value) (n : Nat) (a : Nat → ByteArray) (b c d : Nat → Int) (p q r : Int) (W : World) (hs : Sl W v 4 n (gc a b c d)) (hx : Hid (∀ i, i < n → ((a i).size : Int) ≤ 1048576)) :
    Calls Try.prog 35 #[v, .agg #[.int .i64 p, .int .i64 q, .int .i64 r]] W (FirstPost n a b c d p q r W) := by
  obtain ⟨i0, hi, hz0, hz1, hz2⟩ := info_parts infoInt
  have KA := kept_alloc (Below.refl W.heap.size W) (.cells #[.int .i64 p, .int .i64 q, .int .i64 r] 30)
  have HSA := hs.kept KA
  have q0 : (W.alloc (.cells #[.int .i64 p, .int .i64 q, .int .i64 r] 30)).cell? ⟨W.heap.size, 0, none⟩ = some (.int .i64 p) := boxed_at rfl rfl
  have q1 : (W.alloc (.cells #[.int .i64 p, .int .i64 q, .int .i64 r] 30)).cell? ⟨W.heap.size, 1, none⟩ = some (.int .i64 q) := boxed_at rfl rfl
  have q2 : (W.alloc (.cells #[.int .i64 p, .int .i64 q, .int .i64 r] 30)).cell? ⟨W.heap.size, 2, none⟩ = some (.int .i64 r) := boxed_at rfl rfl
  have HG := Lib.hid (fun w h => i_grouped v n a b c d p q r w h hx)
  obtain ⟨hn, ao, cap, rfl, hr⟩ := id hs
  unfold FirstPost
  rcases frC_cases n a b c d p q r with ⟨h, HT⟩ | ⟨h, h2, HT⟩ | ⟨h, h2, HT⟩
  · rw [h] at HG
    rw [HT.out.1, HT.out.2]
    clear h hr
    go_enter Try.func35, Try.ntmps35
    go_wp2_with (go_at_call 74; refine (HG.out _ HSA).mono ?_; rintro e w1 ⟨rfl, hb1⟩)
    refine bodyPost_ret (results_tmp2 rfl _ _ _) rfl ⟨_, rfl, kept_trans KA hb1, Out.nil _ _ _ _ _⟩
  · obtain ⟨hn12, HB0⟩ := gAsk_out h
    have HA := Lib.hid (fun w h => i_tooLarge (.slice ao n cap) n a b c d p q r w h hn12 HB0)
    have hlen := (allTo_bigs (fit := aloneB b c d p q r) (a := a) (n := n)).2 h2
    rw [h] at HG
    rw [HT.out.1, HT.out.2]
    clear h h2 hr HB0
    generalize bigs (aloneB b c d p q r) a n = bg at *
    go_enter Try.func35, Try.ntmps35
    go_wp2_with (first | (go_at_call 75; refine (HA.out _ (HSA.kept hb1)).mono ?_; rintro e w2 ⟨g, rfl, hb2, ho⟩; obtain ⟨gg, gcap, rfl, -, -⟩ := ho.opened (by omega)) | (go_at_call 74; refine (HG.out _ HSA).mono ?_; rintro e w1 ⟨rfl, hb1⟩; have u0 := cell_keep hb1 q0; have u1 := cell_keep hb1 q1; have u2 := cell_keep hb1 q2))
    refine bodyPost_ret (results_tmp2 rfl _ _ _) rfl ⟨_, rfl, kept_trans (kept_trans KA hb1) hb2, Out.nil _ _ _ _ _⟩
  · obtain ⟨hn12, HB0⟩ := gAsk_out h
    have HB := Lib.hid HB0
    have HA := Lib.hid (fun w h => i_tooLarge (.slice ao n cap) n a b c d p q r w h hn12 HB0)
    have hlen := (allTo_bigs (fit := aloneB b c d p q r) (a := a) (n := n)).1 h2
    rw [h] at HG
    rw [HT.out.1, HT.out.2]
    have FE := Lib.hid (fun (s k : Nat) (P B K : Int) h1 h2 h3 => ftB_eq (b := b) (c := c) (d := d) (p := p) (q := q) (r := r) (s := s) (k := k) (P := P) (B := B) (K := K) h1 h2 h3)
    have FY := Lib.hid (fun (k s : Nat) (x : Int) h h1 => frS_yes (ft := ftB b c d p q r) (k := k) (s := s) (x := x) h h1)
    have FN := Lib.hid (fun (k s : Nat) (x : Int) h h1 => frS_no (ft := ftB b c d p q r) (k := k) (s := s) (x := x) h h1)
    have FZ := Lib.hid (frS_zero (ftB b c d p q r))
    have FR := Lib.hid (fun (k s : Nat) (x : Int) h => frR_of (ft := ftB b c d p q r) (k := k) (s := s) (x := x) h)
    have N1 : Hid (∀ k, sumI b (k + 1) = sumI b k + b k) := fun _ => rfl
    have N2 : Hid (∀ k, sumI c (k + 1) = sumI c k + c k) := fun _ => rfl
    have N3 : Hid (∀ k, sumI (kgOf b c d) (k + 1) = sumI (kgOf b c d) k + (75 * b k + 15 * c k + d k)) := fun _ => rfl
    clear HB0 h h2 HT
    generalize frR (ftB b c d p q r) = rd at *
    generalize frS (ftB b c d p q r) = fr at *
    generalize ftB b c d p q r = ft at *
    generalize sumI b = sp at *
    generalize sumI c = sb at *
    generalize sumI (kgOf b c d) = sk at *
    generalize bigs (aloneB b c d p q r) a n = bg at *
    go_enter Try.func35, Try.ntmps35
    go_upto_region 6 with (first | (go_at_call 75; go_loud (refine (HA.out _ (HSA.kept hb1)).mono ?_; rintro e w2 ⟨g, rfl, hb2, ho⟩; have hgl := Out.zero_form ho hlen; clear ho; obtain ⟨gg, gcap, rfl⟩ := hgl)) | (go_at_call 74; refine (HG.out _ HSA).mono ?_; rintro e w1 ⟨rfl, hb1⟩; have u0 := cell_keep hb1 q0; have u1 := cell_keep hb1 q1; have u2 := cell_keep hb1 q2))
    have KB := kept_trans (kept_trans KA hb1) hb2
    have z0 := cell_keep (kept_trans hb1 hb2) q0
    have z1 := cell_keep (kept_trans hb1 hb2) q1
    have z2 := cell_keep (kept_trans hb1 hb2) q2
    have hne : W.heap.size < w2.heap.size := by
      have h1 := hb1.size
      have h2 := hb2.size
      simp at h1
      omega
    clear HA HG u0 u1 u2 q0 q1 q2 HSA hs
    go_wp2_with fail
    go_loopw [7, 8, 27] (fun o rs i wr => ∃ (k s : Nat) (rr P B K : Int) (x : Value), k ≤ n ∧ i = .int .i64 k ∧ rs = .int .i64 rr ∧ x = o ∧ 0 ≤ rr ∧ rr ≤ k ∧ Hid (fr k = (rr, s)) ∧ Hid (P = sp k - sp s) ∧ Hid (B = sb k - sb s) ∧ Hid (K = sk k - sk s) ∧ 0 ≤ P ∧ P ≤ 200 * k ∧ 0 ≤ B ∧ B ≤ 40 * k ∧ 0 ≤ K ∧ K ≤ 115600 * k ∧ Below w2.heap.size w2 wr ∧ RoomAt wr w2.heap.size P B K ∧ Out wr (w2.heap.size + 1) 2 1 x k (ic rd)) (fun _ _ i _ => n - (intOf i).toNat)
    case atStart => exact ⟨0, 0, 0, 0, 0, 0, _, by omega, rfl, rfl, rfl, by omega, by omega, FZ.out, by show (0 : Int) = sp 0 - sp 0; omega, by show (0 : Int) = sb 0 - sb 0; omega, by show (0 : Int) = sk 0 - sk 0; omega, by omega, by omega, by omega, by omega, by omega, by omega, kept_alloc (Below.refl _ _) _, RoomAt.new rfl, Out.nil _ _ _ _ _⟩
    case round =>
      obtain ⟨k, s, rr, P, B, K, x, hk, rfl, rfl, rfl, hr0, hr1, HF, HP, HBB, HK, hp0, hp1, hB0, hB1, hK0, hK1, hb, hq, hown⟩ := hrel
      by_cases hlt : k < n
      · rcases hr with h0 | ⟨g, off, rfl, hr⟩
        · omega
        obtain ⟨t0, t1, t2, t3⟩ := gccells ((hr.kept KB).kept hb) hlt
        obtain ⟨hbk, hck, hdk⟩ := HB.out k hlt
        have HN := Lib.hid (fun w => i_need (a k) (b k) (c k) (d k) w hbk hck hdk)
        have HPL := Lib.hid (fun w => i_plus P B K (b k) (c k) (75 * b k + 15 * c k + d k) w (by omega) (by omega) (by omega))
        have HFT := Lib.hid (fun w => i_fits (P + b k) (B + c k) (K + (75 * b k + 15 * c k + d k)) p q r w)
        rw [FE.out s k P B K HP.out HBB.out HK.out] at HFT
        have KX := kept_alloc (Below.refl wr.heap.size wr) (.cells #[.string (a k), .int .i64 (b k), .int .i64 (c k), .int .i64 (d k)] 78)
        go_upto_region 11 with (fail)
        obtain ⟨WA, hWA⟩ : ∃ w, wr.alloc (.cells #[.string (a k), .int .i64 (b k), .int .i64 (c k), .int .i64 (d k)] 78) = w := ⟨_, rfl⟩
        have ux0 : WA.cell? ⟨wr.heap.size, 0, none⟩ = some (.string (a k)) := by rw [← hWA]; exact boxed_at rfl rfl
        have ux1 : WA.cell? ⟨wr.heap.size, 1, none⟩ = some (.int .i64 (b k)) := by rw [← hWA]; exact boxed_at rfl rfl
        have ux2 : WA.cell? ⟨wr.heap.size, 2, none⟩ = some (.int .i64 (c k)) := by rw [← hWA]; exact boxed_at rfl rfl
        have ux3 : WA.cell? ⟨wr.heap.size, 3, none⟩ = some (.int .i64 (d k)) := by rw [← hWA]; exact boxed_at rfl rfl
        rw [hWA] at KX ⊢
        have HBA := Lib.hid (kept_trans hb KX)
        have HQA := Lib.hid (hq.kept KX)
        have HOA := Lib.hid (hown.kept KX)
        have HOB : Hid (∀ b, x.ownBlock = some b → b < wr.heap.size) := fun b hb => (hown.base b hb).2
        have hsz : wr.heap.size < WA.heap.size := by rw [← hWA]; simp
        have hs2 := hb.size
        obtain ⟨hl, y0, y1, y2, -⟩ := HQA.out
        clear hWA KX hb hq hown hr t0 t1 t2 t3 hbk hck hdk
        go_cut [12] (fun s wx => ∃ gx, s = .pointer (some ⟨gx, 0, none⟩) ∧ WA.heap.size ≤ gx ∧ RoomAt wx gx (P + b k) (B + c k) (K + (75 * b k + 15 * c k + d k)) ∧ Below WA.heap.size WA wx)
        case first =>
          go_region_held3 (fun w' => w'.cell? ⟨w2.heap.size, 0, none⟩ = some (.int .i64 P) ∧ w'.cell? ⟨w2.heap.size, 1, none⟩ = some (.int .i64 B) ∧ w'.cell? ⟨w2.heap.size, 2, none⟩ = some (.int .i64 K) ∧ w'.cell? ⟨wr.heap.size, 0, none⟩ = some (.string (a k)) ∧ w'.cell? ⟨wr.heap.size, 1, none⟩ = some (.int .i64 (b k)) ∧ w'.cell? ⟨wr.heap.size, 2, none⟩ = some (.int .i64 (c k)) ∧ w'.cell? ⟨wr.heap.size, 3, none⟩ = some (.int .i64 (d k))) (((try dsimp only); (repeat' apply And.intro) <;> (first | (go_keep; done) | (apply cell_kept; assumption; repeat (first | assumption | exact Below.refl _ _ | refine kept_drew ?_ | refine kept_alloc ?_ _ | refine kept_set ?_ ?_ _ | exact Nat.le_refl _ | refine kept_trans ?_ (by assumption) | (simp; omega) | (simp; done)))))) (first | (go_at_call 66; refine (HN.out _).mono ?_; rintro e x1 ⟨rfl, hbx1⟩; obtain ⟨hc1, hf1⟩ := bcell hbx1; have hz1 := hbx1.size; (try simp at hz1); (try have hz1' := Nat.lt_of_succ_le hz1)) | (go_at_call 65; refine (HPL.out _).mono ?_; rintro e x2 ⟨rfl, hbx2⟩; obtain ⟨hc2, hf2⟩ := bcell hbx2; have hz2 := hbx2.size; (try simp at hz2); (try have hz2' := Nat.lt_of_succ_le hz2); (try have hz12 := Nat.lt_of_lt_of_le hz1' hz2)))
          · go_wp2_with fail
            go_meet
            exact ⟨_, rfl, by omega, RoomAt.new rfl, (by repeat (first | assumption | exact Below.refl _ _ | refine kept_drew ?_ | refine kept_alloc ?_ _ | refine kept_set ?_ ?_ _ | exact Nat.le_refl _ | refine kept_trans ?_ (by assumption) | (simp; omega) | (simp; done)))⟩
          · go_wp2_with fail
            go_meet
            exact ⟨_, rfl, by omega, RoomAt.stored ((RoomAt.new (x := 0) (y := 0) (z := 0) (by first | rfl | simp)).kept hbx2), (by repeat (first | assumption | exact Below.refl _ _ | refine kept_drew ?_ | refine kept_alloc ?_ _ | refine kept_set ?_ ?_ _ | exact Nat.le_refl _ | refine kept_trans ?_ (by assumption) | (simp; omega) | (simp; done)))⟩
          · go_wp2_with fail
            go_meet
            exact ⟨_, rfl, by omega, RoomAt.stored (((RoomAt.new (x := 0) (y := 0) (z := 0) (by first | rfl | simp)).kept (kept_trans (kept_drew (Below.refl _ _)) hbx1)).kept hbx2), (by repeat (first | assumption | exact Below.refl _ _ | refine kept_drew ?_ | refine kept_alloc ?_ _ | refine kept_set ?_ ?_ _ | exact Nat.le_refl _ | refine kept_trans ?_ (by assumption) | (simp; omega) | (simp; done)))⟩
        case rest =>
          obtain ⟨gx, rfl, hgx, hqx, hbx⟩ := hcut
          have HQC := Lib.hid (HQA.out.kept hbx)
          have HQX := Lib.hid hqx
          have HOC := Lib.hid (HOA.out.kept hbx)
          have HBC := Lib.hid (kept_trans HBA.out hbx)
          have z0 := cell_keep HBC.out z0
          have z1 := cell_keep HBC.out z1
          have z2 := cell_keep HBC.out z2
          have UX0 := Lib.hid (cell_keep hbx ux0)
          have UX1 := Lib.hid (cell_keep hbx ux1)
          have UX2 := Lib.hid (cell_keep hbx ux2)
          have UX3 := Lib.hid (cell_keep hbx ux3)
          have hne1 : ¬ gx = w2.heap.size := by omega
          have HG : Hid (x.ownBlock ≠ some gx) := fun e => by have := HOB.out _ e; omega
          have HGL : Hid (w2.heap.size ≤ gx) := by show w2.heap.size ≤ gx; omega
          have hbk := (HB.out k hlt)
          have hne2 : ¬ w2.heap.size = gx := by omega
          obtain ⟨-, m0, m1, m2, -⟩ := hqx
          clear hbx ux0 ux1 ux2 ux3 y0 y1 y2 HQA HOA HBA HPL
          cases hft : ft s k
          · rw [hft] at HFT
            have HNX : Hid (fr (k + 1) = (rr + 1, k)) := FN.out k s rr HF.out hft
            clear hft
            have e1 : rr + 1 ≤ 9223372036854775807 := by omega
            go_wp2_with (first
              | (((at_builtin; refine wpList_append_own_at _ rfl _ _ 34 rfl _ 2 i0 _ 1 8 Try.underlying34 hi hz0 hz1 hz2 rfl (by decide) _ _ _ rfl ((ownS).row.alloc _) ⟨x4.heap.size, 0, none⟩ 1 1 _ (by rfl) (by rfl) (laid_at (by simp)) (by intro u hu; simp at hu; first | (rcases hu with rfl | rfl <;> rfl) | (subst hu; rfl)) (by simp only [maxLen]; omega) (by omega) (by have hbs := hbS.size; simp at hbs ⊢; omega) ?_; intro vC wC hownC hgrowC hnilC hatC)); skip)
              | (go_at_call 72; refine (HFT.out _).mono ?_; rintro e x3 ⟨rfl, hbx3⟩; have v0 := cell_keep hbx3 UX0.out; have v1 := cell_keep hbx3 UX1.out; have v2 := cell_keep hbx3 UX2.out; have v3 := cell_keep hbx3 UX3.out)
              | (go_at_call 66; refine (HN.out _).mono ?_; rintro e x4 ⟨rfl, hbx4⟩; have HQ4 := Lib.hid ((HQC.out.kept hbx3).kept hbx4); have HQX4 := Lib.hid ((HQX.out.kept hbx3).kept hbx4); obtain ⟨-, o0, o1, o2, fo⟩ := HQ4.out; have fo0 := fo 0; have fo1 := fo 1; have fo2 := fo 2; clear fo; obtain ⟨-, n0, n1, n2, fn⟩ := HQX4.out; have fn0 := fn 0; have fn1 := fn 1; have fn2 := fn 2; clear fn; have ownS := (((((((HOC.out.kept hbx3).kept hbx4).seta (p := ⟨gx, 0, none⟩) HG.out (.int .i64 (b k))).seta (p := ⟨gx, 1, none⟩) HG.out (.int .i64 (c k))).seta (p := ⟨gx, 2, none⟩) HG.out (.int .i64 (75 * b k + 15 * c k + d k))).setb (a := ⟨w2.heap.size, 0, none⟩) (Nat.lt_succ_self _) (.int .i64 (b k))).setb (a := ⟨w2.heap.size, 1, none⟩) (Nat.lt_succ_self _) (.int .i64 (c k))).setb (a := ⟨w2.heap.size, 2, none⟩) (Nat.lt_succ_self _) (.int .i64 (75 * b k + 15 * c k + d k)); have hbS := kept_set (kept_set (kept_set (kept_set (kept_set (kept_set (kept_trans HBC.out (kept_trans hbx3 hbx4)) (p := ⟨gx, 0, none⟩) HGL.out (.int .i64 (b k))) (p := ⟨gx, 1, none⟩) HGL.out (.int .i64 (c k))) (p := ⟨gx, 2, none⟩) HGL.out (.int .i64 (75 * b k + 15 * c k + d k))) (p := ⟨w2.heap.size, 0, none⟩) (Nat.le_refl _) (.int .i64 (b k))) (p := ⟨w2.heap.size, 1, none⟩) (Nat.le_refl _) (.int .i64 (c k))) (p := ⟨w2.heap.size, 2, none⟩) (Nat.le_refl _) (.int .i64 (75 * b k + 15 * c k + d k))))
            have R1 := Lib.hid (Out.snoc1 hownC (by simp only [ic]; rw [FR.out _ _ _ HNX.out]))
            have R2 := below_of_append hbS (ownS.base_le (Nat.le_succ _)).row hgrowC
            have RQ := Lib.hid ((((((HQ4.out).other (p := ⟨gx, 0, none⟩) hne1 (.int .i64 (b k))).other (p := ⟨gx, 1, none⟩) hne1 (.int .i64 (c k))).other (p := ⟨gx, 2, none⟩) hne1 (.int .i64 (75 * b k + 15 * c k + d k))).stored.kept (kept_alloc (Below.refl _ _) _)).far hgrowC (fun e => by have := (ownS.base _ e.symm).1; omega))
            clear hownC hgrowC hatC hnilC ownS hbS n0 n1 n2 o0 o1 o2 fo0 fo1 fo2 fn0 fn1 fn2
            try go_wp2
            go_roundw
            case rel => exact ⟨k + 1, k, rr + 1, _, _, _, _, by omega, by go_num, rfl, rfl, by omega, by omega, HNX, by show b k = sp (k + 1) - sp k; rw [N1.out]; omega, by show c k = sb (k + 1) - sb k; rw [N2.out]; omega, by show 75 * b k + 15 * c k + d k = sk (k + 1) - sk k; rw [N3.out]; omega, by omega, by omega, by omega, by omega, by omega, by omega, R2, RQ.out, R1.out⟩
            case measure => simp [intOf]; omega
          · rw [hft] at HFT
            have HNX : Hid (fr (k + 1) = (rr, s)) := FY.out k s rr HF.out hft
            clear hft UX0 UX1 UX2 UX3 HN
            go_wp2_with (first
              | (((at_builtin; refine wpList_append_own_at _ rfl _ _ 34 rfl _ 2 i0 _ 1 8 Try.underlying34 hi hz0 hz1 hz2 rfl (by decide) _ _ _ rfl ((ownS).row.alloc _) ⟨x3.heap.size, 0, none⟩ 1 1 _ (by rfl) (by rfl) (laid_at (by simp)) (by intro u hu; simp at hu; first | (rcases hu with rfl | rfl <;> rfl) | (subst hu; rfl)) (by simp only [maxLen]; omega) (by omega) (by have hbs := hbS.size; simp at hbs ⊢; omega) ?_; intro vC wC hownC hgrowC hnilC hatC)); skip)
              | (go_at_call 72; refine (HFT.out _).mono ?_; rintro e x3 ⟨rfl, hbx3⟩; have n0 := cell_keep hbx3 m0; have n1 := cell_keep hbx3 m1; have n2 := cell_keep hbx3 m2; have HQ3 := Lib.hid (HQC.out.kept hbx3); obtain ⟨-, o0, o1, o2, fo⟩ := HQ3.out; have fo0 := fo 0; have fo1 := fo 1; have fo2 := fo 2; clear fo; have ownS := (((HOC.out.kept hbx3).setb (a := ⟨w2.heap.size, 0, none⟩) (Nat.lt_succ_self _) (.int .i64 (P + b k))).setb (a := ⟨w2.heap.size, 1, none⟩) (Nat.lt_succ_self _) (.int .i64 (B + c k))).setb (a := ⟨w2.heap.size, 2, none⟩) (Nat.lt_succ_self _) (.int .i64 (K + (75 * b k + 15 * c k + d k))); have hbS := kept_set (kept_set (kept_set (kept_trans HBC.out hbx3) (p := ⟨w2.heap.size, 0, none⟩) (Nat.le_refl _) (.int .i64 (P + b k))) (p := ⟨w2.heap.size, 1, none⟩) (Nat.le_refl _) (.int .i64 (B + c k))) (p := ⟨w2.heap.size, 2, none⟩) (Nat.le_refl _) (.int .i64 (K + (75 * b k + 15 * c k + d k)))))
            have R1 := Lib.hid (Out.snoc1 hownC (by simp only [ic]; rw [FR.out _ _ _ HNX.out]))
            have R2 := below_of_append hbS (ownS.base_le (Nat.le_succ _)).row hgrowC
            have RQ := Lib.hid ((HQ3.out.stored.kept (kept_alloc (Below.refl _ _) _)).far hgrowC (fun e => by have := (ownS.base _ e.symm).1; omega))
            clear hownC hgrowC hatC hnilC ownS hbS n0 n1 n2 o0 o1 o2 fo0 fo1 fo2
            try go_wp2
            go_roundw
            case rel => exact ⟨k + 1, s, rr, _, _, _, _, by omega, by go_num, rfl, rfl, by omega, by omega, HNX, by show P + b k = sp (k + 1) - sp s; rw [N1.out, HP.out]; omega, by show B + c k = sb (k + 1) - sb s; rw [N2.out, HBB.out]; omega, by show K + (75 * b k + 15 * c k + d k) = sk (k + 1) - sk s; rw [N3.out, HK.out]; omega, by omega, by omega, by omega, by omega, by omega, by omega, R2, RQ.out, R1.out⟩
            case measure => simp [intOf]; omega
      · obtain rfl : k = n := by omega
        clear hr
        go_wp2
        refine bodyPost_ret (results_tmp2 rfl _ _ _) rfl ⟨_, rfl, kept_trans KB hb, hown.base_le (by have := KB.size; omega)⟩

theorem l_FirstRides {W : World} (v0 : Value) (n : Nat) (a : Nat → ByteArray) (b c d : Nat → Int) (hs : Sl W v0 4 n (gc a b c d)) (hx : Hid (∀ i, i < n → ((a i).size : Int) ≤ 9223372036854775807)) (p q r : Int) : Calls Try.prog 7 #[v0, .agg #[.int .i64 p, .int .i64 q, .int .i64 r]] W (Truly W) :=
  l_FirstRides_of v0 n a b c d p q r hs hx _ _ (frM_le n a b c d p q r hs.1) _ (fun w u0 h hb => s_FirstRides u0 n a b c d p q r w h hb) (fun w u0 h hb => i_FirstRides u0 n a b c d p q r w h hb)

end Go.Proofs.Ytfnollbeeehpnaa
