/- The waters of trips. -/
import Derived.Test.YtmgbbfbalmlpiaaGreatDoorWater
namespace Go.Proofs.YtmgbbfbalmlpiaaGreatDoor
open Go.RowKit Go.Deep
set_option maxRecDepth 100000
set_option linter.unusedVariables false

def twF (t : Int) (a b : Nat → Int) (rp gr nd : Int) : Nat → Int := fun i => wtF t (a i) (b i) rp gr nd
def twPair (a b : Nat → Int) : Nat → Bool := fun i => inB (a i) 0 100000 && inB (b i) 0 100000
theorem twPair_l {a b : Nat → Int} {i : Nat} (h : inB (a i) 0 100000 = false) : twPair a b i = false := by unfold twPair; rw [h]; rfl
theorem twPair_r {a b : Nat → Int} {i : Nat} (h1 : inB (a i) 0 100000 = true) (h : inB (b i) 0 100000 = false) : twPair a b i = false := by unfold twPair; rw [h1, h]; rfl
theorem twPair_y {a b : Nat → Int} {i : Nat} (h1 : inB (a i) 0 100000 = true) (h : inB (b i) 0 100000 = true) : twPair a b i = true := by unfold twPair; rw [h1, h]; rfl
def twRange (n : Nat) (a b : Nat → Int) (rp gr nd : Int) : Bool := decide (n ≤ 24) && vThree 0 rp gr && inB nd 0 1000000 && allTo (twPair a b) n
def twOne (n : Nat) (a : Nat → Int) (rp gr : Int) : Bool := allTo (fun i => inB (a i) 0 100000) n && inB rp 0 100000 && inB gr 1 900
theorem twRange_eq (n : Nat) (a b : Nat → Int) (rp gr nd : Int) : twRange n a b rp gr nd = (decide (n ≤ 24) && twOne n a rp gr && twOne n b rp gr && inB nd 0 1000000) := by
  rw [Bool.eq_iff_iff]
  simp only [twRange, twOne, vThree, Bool.and_eq_true]
  constructor
  · rintro ⟨⟨⟨h1, ⟨-, h2⟩, h3⟩, h4⟩, h5⟩
    have h6 := allTo_out h5
    simp only [twPair, Bool.and_eq_true] at h6
    exact ⟨⟨⟨h1, ⟨allTo_yes fun i hi => (h6 i hi).1, h2⟩, h3⟩, ⟨allTo_yes fun i hi => (h6 i hi).2, h2⟩, h3⟩, h4⟩
  · rintro ⟨⟨⟨h1, ⟨h5, h2⟩, h3⟩, ⟨h6, -⟩, -⟩, h4⟩
    refine ⟨⟨⟨h1, ⟨rfl, h2⟩, h3⟩, h4⟩, allTo_yes fun i hi => ?_⟩
    exact twPair_y (allTo_out h5 i hi) (allTo_out h6 i hi)
theorem twRange_cases (n : Nat) (a b : Nat → Int) (rp gr nd : Int) :
    (24 < n ∧ twRange n a b rp gr nd = false) ∨ (n ≤ 24 ∧ twOne n a rp gr = false ∧ twRange n a b rp gr nd = false) ∨
    (n ≤ 24 ∧ twOne n a rp gr = true ∧ twOne n b rp gr = false ∧ twRange n a b rp gr nd = false) ∨
    (n ≤ 24 ∧ twOne n a rp gr = true ∧ twOne n b rp gr = true ∧ inB nd 0 1000000 = false ∧ twRange n a b rp gr nd = false) ∨
    (n ≤ 24 ∧ twOne n a rp gr = true ∧ twOne n b rp gr = true ∧ inB nd 0 1000000 = true ∧ twRange n a b rp gr nd = true) := by
  have key := twRange_eq n a b rp gr nd
  by_cases h : n ≤ 24
  · have hd : decide (n ≤ 24) = true := by simpa using h
    rw [hd] at key
    cases h1 : twOne n a rp gr
    · exact .inr (.inl ⟨h, rfl, by rw [key, h1]; rfl⟩)
    · cases h2 : twOne n b rp gr
      · exact .inr (.inr (.inl ⟨h, rfl, rfl, by rw [key, h1, h2]; rfl⟩))
      · cases h3 : inB nd 0 1000000
        · exact .inr (.inr (.inr (.inl ⟨h, rfl, rfl, rfl, by rw [key, h1, h2, h3]; rfl⟩)))
        · exact .inr (.inr (.inr (.inr ⟨h, rfl, rfl, rfl, by rw [key, h1, h2, h3]; rfl⟩)))
  · have hd : decide (n ≤ 24) = false := by simpa using h
    exact .inl ⟨by omega, by rw [key, hd]; rfl⟩
theorem twRange_out {n : Nat} {a b : Nat → Int} {rp gr nd : Int} (h : twRange n a b rp gr nd = true) : n ≤ 24 ∧ (0 ≤ rp ∧ rp ≤ 100000) ∧ (1 ≤ gr ∧ gr ≤ 900) ∧ ∀ i, i < n → (0 ≤ a i ∧ a i ≤ 100000) ∧ (0 ≤ b i ∧ b i ≤ 100000) := by
  simp only [twRange, vThree, Bool.and_eq_true, decide_eq_true_eq] at h
  obtain ⟨⟨⟨h1, ⟨-, h2⟩, h3⟩, h4⟩, h5⟩ := h
  have h6 := allTo_out h5
  simp only [twPair, Bool.and_eq_true] at h6
  exact ⟨h1, inB_out h2, inB_out h3, fun i hi => ⟨inB_out (h6 i hi).1, inB_out (h6 i hi).2⟩⟩
/-- The reference's own order of its questions. -/
theorem twRange_s (n : Nat) (a b : Nat → Int) (rp gr nd : Int) :
    (24 < n ∧ twRange n a b rp gr nd = false) ∨ (n ≤ 24 ∧ vThree 0 rp gr = false ∧ twRange n a b rp gr nd = false) ∨
    (n ≤ 24 ∧ vThree 0 rp gr = true ∧ inB nd 0 1000000 = false ∧ twRange n a b rp gr nd = false) ∨
    (n ≤ 24 ∧ vThree 0 rp gr = true ∧ inB nd 0 1000000 = true ∧ twRange n a b rp gr nd = allTo (twPair a b) n) := by
  have key : twRange n a b rp gr nd = (decide (n ≤ 24) && vThree 0 rp gr && inB nd 0 1000000 && allTo (twPair a b) n) := rfl
  by_cases h : n ≤ 24
  · have hd : decide (n ≤ 24) = true := by simpa using h
    rw [hd] at key
    cases h1 : vThree 0 rp gr
    · exact .inr (.inl ⟨h, rfl, by rw [key, h1]; rfl⟩)
    · cases h2 : inB nd 0 1000000
      · exact .inr (.inr (.inl ⟨h, rfl, rfl, by rw [key, h1, h2]; rfl⟩))
      · exact .inr (.inr (.inr ⟨h, rfl, rfl, by rw [key, h1, h2]; rfl⟩))
  · have hd : decide (n ≤ 24) = false := by simpa using h
    exact .inl ⟨by omega, by rw [key, hd]; rfl⟩
theorem fine_cases (n : Nat) (x y z : Bool) : 24 < n ∨ (n ≤ 24 ∧ x = false) ∨ (n ≤ 24 ∧ x = true ∧ y = false) ∨ (n ≤ 24 ∧ x = true ∧ y = true ∧ z = false) ∨ (n ≤ 24 ∧ x = true ∧ y = true ∧ z = true) := by
  by_cases h : n ≤ 24
  · cases x
    · exact .inr (.inl ⟨h, rfl⟩)
    · cases y
      · exact .inr (.inr (.inl ⟨h, rfl, rfl⟩))
      · cases z
        · exact .inr (.inr (.inr (.inl ⟨h, rfl, rfl, rfl⟩)))
        · exact .inr (.inr (.inr (.inr ⟨h, rfl, rfl, rfl⟩)))
  · exact .inl (by omega)
attribute [irreducible] twRange twOne twPair

def twOk (n : Nat) (F : Nat → Int) (t : Int) : Bool := allTo (fun i => decide (F i ≤ t)) n
theorem twOk_no {n : Nat} {F : Nat → Int} {t : Int} {k : Nat} (hk : k < n) (h : t < F k) : twOk n F t = false := allTo_no hk (by simp; omega)
theorem twOk_yes {n : Nat} {F : Nat → Int} {t : Int} (h : ∀ i, i < n → F i ≤ t) : twOk n F t = true := allTo_yes (fun i hi => by simp [h i hi])
attribute [irreducible] twOk
def twEnd (n : Nat) (ok : Bool) : Nat × Int := if ok then (n, 0) else (0, 3)
theorem twEnd_yes (n : Nat) : twEnd n true = (n, 0) := rfl
theorem twEnd_no (n : Nat) : twEnd n false = (0, 3) := rfl
attribute [irreducible] twEnd
def twRes (t r s p : Int) (n : Nat) (a : Nat → Int) (m : Nat) (b : Nat → Int) (rp gr nd : Int) : Nat × Int :=
  if vBasin t r s p = true then (if n = m then (if twRange n a b rp gr nd = true then twEnd n (twOk n (twF t a b rp gr nd) t) else (0, 2)) else (0, 7)) else (0, 1)
section
variable {t r s p : Int} {n : Nat} {a : Nat → Int} {m : Nat} {b : Nat → Int} {rp gr nd : Int}
theorem twRes_1 (h : vBasin t r s p = false) : twRes t r s p n a m b rp gr nd = (0, 1) := by unfold twRes; rw [if_neg (by rw [h]; simp)]
theorem twRes_7 (h : vBasin t r s p = true) (hn : n ≠ m) : twRes t r s p n a m b rp gr nd = (0, 7) := by unfold twRes; rw [if_pos h, if_neg hn]
theorem twRes_2 (h : vBasin t r s p = true) (hr : twRange n a b rp gr nd = false) : twRes t r s p n a n b rp gr nd = (0, 2) := by unfold twRes; rw [if_pos h, if_pos rfl, if_neg (by rw [hr]; simp)]
theorem twRes_0 (h : vBasin t r s p = true) (hr : twRange n a b rp gr nd = true) : twRes t r s p n a n b rp gr nd = twEnd n (twOk n (twF t a b rp gr nd) t) := by unfold twRes; rw [if_pos h, if_pos rfl, if_pos hr]
theorem twRes_le (hn : n ≤ 17592186044416) : (twRes t r s p n a m b rp gr nd).1 ≤ 17592186044416 := by
  unfold twRes
  split
  · split
    · split
      · cases twOk n (twF t a b rp gr nd) t
        · rw [twEnd_no]; simp
        · rw [twEnd_yes]; exact hn
      · simp
    · simp
  · simp
end
attribute [irreducible] twRes
def TwPost (A : Nat × Int) (F : Nat → Int) (W : World) (e : Ending) (W' : World) : Prop :=
  ∃ g, e = .returned (.tuple #[g, .int .i64 A.2]) ∧ Below W.heap.size W W' ∧ Out W' W.heap.size 2 1 g A.1 (ic F)

/-- A basin in a box, and behind it. -/
def bxw (t r s p : Int) (W : World) : World := W.alloc (.cells #[.int .i64 t, .int .i64 r, .int .i64 s, .int .i64 p] 25)

set_option maxHeartbeats 1600000 in
theorem i_TripWaters (t r s p : Int) (v : Value) (n : Nat) (a : Nat → Int) (v2 : Value) (m : Nat) (b : Nat → Int) (rp gr nd : Int) (W : World) (hs : Sl W v 1 n (ic a)) (hs2 : Sl W v2 1 m (ic b)) :
    Calls Tryz.prog 10 #[.agg #[.int .i64 t, .int .i64 r, .int .i64 s, .int .i64 p], v, v2, .int .i64 rp, .int .i64 gr, .int .i64 nd] W (TwPost (twRes t r s p n a m b rp gr nd) (twF t a b rp gr nd) W) := by
  obtain ⟨i0, hi, hz0, hz1, hz2⟩ := info_parts infoInt
  have Q0 : Hid ((W.alloc (.cells #[.int .i64 t, .int .i64 r, .int .i64 s, .int .i64 p] 25)).cell? ⟨W.heap.size, 0, none⟩ = some (.int .i64 t)) := boxed_at rfl rfl
  have Q1 : Hid ((W.alloc (.cells #[.int .i64 t, .int .i64 r, .int .i64 s, .int .i64 p] 25)).cell? ⟨W.heap.size, 1, none⟩ = some (.int .i64 r)) := boxed_at rfl rfl
  have Q2 : Hid ((W.alloc (.cells #[.int .i64 t, .int .i64 r, .int .i64 s, .int .i64 p] 25)).cell? ⟨W.heap.size, 2, none⟩ = some (.int .i64 s)) := boxed_at rfl rfl
  have Q3 : Hid ((W.alloc (.cells #[.int .i64 t, .int .i64 r, .int .i64 s, .int .i64 p] 25)).cell? ⟨W.heap.size, 3, none⟩ = some (.int .i64 p)) := boxed_at rfl rfl
  have KB := kept_alloc (Below.refl W.heap.size W) (.cells #[.int .i64 t, .int .i64 r, .int .i64 s, .int .i64 p] 25)
  have HS1 := hs.kept KB
  have HS2 := hs2.kept KB
  have hn := hs.1
  have HVB := Lib.hid (fun w => i_ValidBasin t r s p w)
  have HL1 := Lib.hid (fun w h => i_areLoads rp gr v n a w h)
  have HL2 := Lib.hid (fun w h => i_areLoads rp gr v2 m b w h)
  have ha1 : (allTo (fun i => inB (a i) 0 100000) n && inB rp 0 100000 && inB gr 1 900) = twOne n a rp gr := by unfold twOne; rfl
  have ha2 : (allTo (fun i => inB (b i) 0 100000) m && inB rp 0 100000 && inB gr 1 900) = twOne m b rp gr := by unfold twOne; rfl
  rw [ha1] at HL1
  rw [ha2] at HL2
  clear ha1 ha2
  obtain ⟨-, ao, cap, rfl, hr⟩ := hs
  obtain ⟨hm, ao2, cap2, rfl, hr2⟩ := hs2
  have KR := twRange_eq n a b rp gr nd
  unfold TwPost
  cases hv : vBasin t r s p
  · have HF := Lib.hid (twRes_1 (n := n) (a := a) (m := m) (b := b) (rp := rp) (gr := gr) (nd := nd) hv)
    have HBS : Hid (∀ f w, Calls Tryz.prog 20 #[.agg #[.int .i64 t, .int .i64 r, .int .i64 s, .int .i64 p], .bool f] w fun e W' => e = .returned (.int .i64 1) ∧ Below w.heap.size w W') := fun f w => by
      have := i_basined t r s p f w
      rw [hv] at this
      cases f <;> exact this
    rw [hv] at HVB
    clear hr hr2 KR
    generalize twOne n a rp gr = A1 at *
    generalize twOne m b rp gr = A2 at *
    rcases fine_cases n A1 A2 (inB nd 0 1000000) with h1 | ⟨h1, rfl⟩ | ⟨h1, rfl, rfl⟩ | ⟨h1, rfl, rfl, h4⟩ | ⟨h1, rfl, rfl, h4⟩
    all_goals
      go_enter Tryz.func10, Tryz.ntmps10
      go_wp2_with (first | (go_at_call 28; refine (HVB.out _).mono ?_; rintro e w1 ⟨rfl, hb1⟩; have q0 := cell_keep hb1 Q0.out; have q1 := cell_keep hb1 Q1.out; have q2 := cell_keep hb1 Q2.out; have q3 := cell_keep hb1 Q3.out) | (go_at_call 21; have two := done1; refine (HL2.out _ ((HS2.kept hb1).kept hb2)).mono ?_; rintro e w3 ⟨rfl, hb3⟩; have q0 := cell_keep hb3 q0; have q1 := cell_keep hb3 q1; have q2 := cell_keep hb3 q2; have q3 := cell_keep hb3 q3) | (go_at_call 21; have done1 : True := trivial; refine (HL1.out _ (HS1.kept hb1)).mono ?_; rintro e w2 ⟨rfl, hb2⟩; have q0 := cell_keep hb2 q0; have q1 := cell_keep hb2 q1; have q2 := cell_keep hb2 q2; have q3 := cell_keep hb2 q3) | (go_at_call 22; refine (i_isNeed _ _).mono ?_; rintro e w' ⟨rfl, rfl⟩) | (go_at_call 20; refine (HBS.out _ _).mono ?_; rintro e w4 ⟨rfl, hb4⟩))
      refine bodyPost_ret (results_tmp2 rfl _ _ _) rfl ⟨_, by rw [HF.out]; rfl, (by repeat (first | assumption | exact Below.refl _ _ | refine kept_drew ?_ | refine kept_drewN ?_ _ | refine kept_alloc ?_ _ | refine kept_set ?_ ?_ _ | (simp; done) | (simp; omega) | refine kept_trans ?_ (by assumption))), by rw [HF.out]; exact Out.nil _ _ _ _ _⟩
  · have HB0 := vBasin_out hv
    have HBS : Hid (∀ f w, Calls Tryz.prog 20 #[.agg #[.int .i64 t, .int .i64 r, .int .i64 s, .int .i64 p], .bool f] w fun e W' => e = .returned (.int .i64 (askCode true f)) ∧ Below w.heap.size w W') := fun f w => by
      have := i_basined t r s p f w
      rw [hv] at this
      exact this
    rw [hv] at HVB
    by_cases hnm : n = m
    · subst hnm
      have hnm' : ((n : Int) == n) = true := by simp
      have HY := Lib.hid (fun h => twRes_0 (n := n) (a := a) (b := b) (rp := rp) (gr := gr) (nd := nd) hv h)
      have HN := Lib.hid (fun h => twRes_2 (n := n) (a := a) (b := b) (rp := rp) (gr := gr) (nd := nd) hv h)
      have HO := @twRange_out n a b rp gr nd
      clear hv
      generalize twOne n a rp gr = A1 at *
      generalize twOne n b rp gr = A2 at *
      generalize twRange n a b rp gr nd = RR at *
      rcases fine_cases n A1 A2 (inB nd 0 1000000) with h1 | ⟨h1, rfl⟩ | ⟨h1, rfl, rfl⟩ | ⟨h1, rfl, rfl, h4⟩ | ⟨h1, rfl, rfl, h4⟩
      case inr.inr.inr.inr =>
        have hd : decide (n ≤ 24) = true := by simpa using h1
        rw [hd, h4] at KR
        have HF := Lib.hid (HY.out KR)
        obtain ⟨-, hrp, hgr, hab⟩ := HO KR
        have HAB := Lib.hid hab
        have HBS : Hid (∀ w, Calls Tryz.prog 20 #[.agg #[.int .i64 t, .int .i64 r, .int .i64 s, .int .i64 p], .bool true] w fun e W' => e = .returned (.int .i64 0) ∧ Below w.heap.size w W') := fun w => HBS.out true w
        have HW : Hid (∀ i, i < n → ∀ w, Calls Tryz.prog 23 #[.agg #[.int .i64 t, .int .i64 r, .int .i64 s, .int .i64 p], .int .i64 (a i), .int .i64 (b i), .int .i64 rp, .int .i64 gr, .int .i64 nd] w fun e W' => e = .returned (.tuple #[.int .i64 (twF t a b rp gr nd i), .bool (decide (twF t a b rp gr nd i ≤ t))]) ∧ Below w.heap.size w W') := fun i hi w => by
          have h := HAB.out i hi
          exact i_waterFor t r s p (a i) (b i) rp gr nd w (by omega) h.1 h.2 hrp hgr
        have HON := Lib.hid (fun k => twOk_no (n := n) (F := twF t a b rp gr nd) (t := t) (k := k))
        have HOY := Lib.hid (twOk_yes (n := n) (F := twF t a b rp gr nd) (t := t))
        generalize twF t a b rp gr nd = F at *
        clear hab HO KR hd HY HN
        rcases hr with h0 | ⟨g, off, rfl, hr⟩
        · have hok := HOY.out (fun i hi => by omega)
          obtain rfl : n = 0 := by omega
          have hF := HF.out
          rw [hok, twEnd_yes] at hF
          have HF := Lib.hid hF
          clear hF hr2
          go_enter Tryz.func10, Tryz.ntmps10
          go_wp2_with (first | (go_at_call 28; refine (HVB.out _).mono ?_; rintro e w1 ⟨rfl, hb1⟩; have q0 := cell_keep hb1 Q0.out; have q1 := cell_keep hb1 Q1.out; have q2 := cell_keep hb1 Q2.out; have q3 := cell_keep hb1 Q3.out) | (go_at_call 21; have two := done1; refine (HL2.out _ ((HS2.kept hb1).kept hb2)).mono ?_; rintro e w3 ⟨rfl, hb3⟩; have q0 := cell_keep hb3 q0; have q1 := cell_keep hb3 q1; have q2 := cell_keep hb3 q2; have q3 := cell_keep hb3 q3) | (go_at_call 21; have done1 : True := trivial; refine (HL1.out _ (HS1.kept hb1)).mono ?_; rintro e w2 ⟨rfl, hb2⟩; have q0 := cell_keep hb2 q0; have q1 := cell_keep hb2 q1; have q2 := cell_keep hb2 q2; have q3 := cell_keep hb2 q3) | (go_at_call 22; refine (i_isNeed _ _).mono ?_; rintro e w' ⟨rfl, rfl⟩) | (go_at_call 20; refine (HBS.out _).mono ?_; rintro e w4 ⟨rfl, hb4⟩))
          refine wp_loop_rounds 1 ?_
          rw [rounds_succ]
          go_wp2
          refine bodyPost_ret (results_tmp2 rfl _ _ _) rfl ⟨_, by rw [HF.out]; rfl, (by repeat (first | assumption | exact Below.refl _ _ | refine kept_drew ?_ | refine kept_drewN ?_ _ | refine kept_alloc ?_ _ | refine kept_set ?_ ?_ _ | (simp; done) | (simp; omega) | refine kept_trans ?_ (by assumption))), by rw [HF.out]; exact Out.nil _ _ _ _ _⟩
        rcases hr2 with h0 | ⟨g2, off2, rfl, hr2⟩
        · have hok := HOY.out (fun i hi => by omega)
          obtain rfl : n = 0 := by omega
          have hF := HF.out
          rw [hok, twEnd_yes] at hF
          have HF := Lib.hid hF
          clear hF hr
          go_enter Tryz.func10, Tryz.ntmps10
          go_wp2_with (first | (go_at_call 28; refine (HVB.out _).mono ?_; rintro e w1 ⟨rfl, hb1⟩; have q0 := cell_keep hb1 Q0.out; have q1 := cell_keep hb1 Q1.out; have q2 := cell_keep hb1 Q2.out; have q3 := cell_keep hb1 Q3.out) | (go_at_call 21; have two := done1; refine (HL2.out _ ((HS2.kept hb1).kept hb2)).mono ?_; rintro e w3 ⟨rfl, hb3⟩; have q0 := cell_keep hb3 q0; have q1 := cell_keep hb3 q1; have q2 := cell_keep hb3 q2; have q3 := cell_keep hb3 q3) | (go_at_call 21; have done1 : True := trivial; refine (HL1.out _ (HS1.kept hb1)).mono ?_; rintro e w2 ⟨rfl, hb2⟩; have q0 := cell_keep hb2 q0; have q1 := cell_keep hb2 q1; have q2 := cell_keep hb2 q2; have q3 := cell_keep hb2 q3) | (go_at_call 22; refine (i_isNeed _ _).mono ?_; rintro e w' ⟨rfl, rfl⟩) | (go_at_call 20; refine (HBS.out _).mono ?_; rintro e w4 ⟨rfl, hb4⟩))
          refine wp_loop_rounds 1 ?_
          rw [rounds_succ]
          go_wp2
          refine bodyPost_ret (results_tmp2 rfl _ _ _) rfl ⟨_, by rw [HF.out]; rfl, (by repeat (first | assumption | exact Below.refl _ _ | refine kept_drew ?_ | refine kept_drewN ?_ _ | refine kept_alloc ?_ _ | refine kept_set ?_ ?_ _ | (simp; done) | (simp; omega) | refine kept_trans ?_ (by assumption))), by rw [HF.out]; exact Out.nil _ _ _ _ _⟩
        have HR1 := Lib.hid hr
        have HR2 := Lib.hid hr2
        clear hr hr2
        go_enter Tryz.func10, Tryz.ntmps10
        go_wp2_with (first | (go_at_call 28; refine (HVB.out _).mono ?_; rintro e w1 ⟨rfl, hb1⟩; have q0 := cell_keep hb1 Q0.out; have q1 := cell_keep hb1 Q1.out; have q2 := cell_keep hb1 Q2.out; have q3 := cell_keep hb1 Q3.out) | (go_at_call 21; have two := done1; refine (HL2.out _ ((HS2.kept hb1).kept hb2)).mono ?_; rintro e w3 ⟨rfl, hb3⟩; have q0 := cell_keep hb3 q0; have q1 := cell_keep hb3 q1; have q2 := cell_keep hb3 q2; have q3 := cell_keep hb3 q3) | (go_at_call 21; have done1 : True := trivial; refine (HL1.out _ (HS1.kept hb1)).mono ?_; rintro e w2 ⟨rfl, hb2⟩; have q0 := cell_keep hb2 q0; have q1 := cell_keep hb2 q1; have q2 := cell_keep hb2 q2; have q3 := cell_keep hb2 q3) | (go_at_call 22; refine (i_isNeed _ _).mono ?_; rintro e w' ⟨rfl, rfl⟩) | (go_at_call 20; refine (HBS.out _).mono ?_; rintro e w4 ⟨rfl, hb4⟩))
        have KA := kept_trans (kept_trans (kept_trans hb1 hb2) hb3) hb4
        have KW := kept_trans KB KA
        have P0 := Lib.hid (cell_keep KA Q0.out)
        have P1 := Lib.hid (cell_keep KA Q1.out)
        have P2 := Lib.hid (cell_keep KA Q2.out)
        have P3 := Lib.hid (cell_keep KA Q3.out)
        have HR1 := Lib.hid (HR1.out.kept KW)
        have HR2 := Lib.hid (HR2.out.kept KW)
        have hsz := KW.size
        clear q0 q1 q2 q3 Q0 Q1 Q2 Q3 HL1 HL2 HS1 HS2 HVB HBS KA KB hb1 hb2 hb3 hb4
        go_loopw [16, 56] (fun u i wr => ∃ (j : Nat) (x : Value), j ≤ n ∧ i = .int .i64 j ∧ x = u ∧ Hid (∀ i, i < j → F i ≤ t) ∧ Below w4.heap.size w4 wr ∧ Out wr w4.heap.size 2 1 x j (ic F)) (fun _ i _ => n - (intOf i).toNat)
        case atStart => exact ⟨0, _, Nat.zero_le _, rfl, rfl, fun i hi => absurd hi (by omega), Below.refl _ _, Out.nil _ _ _ _ _⟩
        case round =>
          obtain ⟨j, x, hj, rfl, rfl, hno, hb, hown⟩ := hrel
          by_cases hlt : j < n
          · have s0 := (HR1.out.kept hb).cell (i := j) (by omega)
            have s1 := (HR2.out.kept hb).cell (i := j) (by omega)
            simp only [ic] at s0 s1
            have y0 := fun dd os => cell_keep (below_regrown wr dd os) s0
            have y1 := fun dd os => cell_keep (below_regrown wr dd os) s1
            have k0 := fun dd os => cell_keep (below_regrown wr dd os) (cell_keep hb P0.out)
            have k1 := fun dd os => cell_keep (below_regrown wr dd os) (cell_keep hb P1.out)
            have k2 := fun dd os => cell_keep (below_regrown wr dd os) (cell_keep hb P2.out)
            have k3 := fun dd os => cell_keep (below_regrown wr dd os) (cell_keep hb P3.out)
            have hcall := Lib.hid (HW.out j hlt)
            rcases (show t < F j ∨ F j ≤ t by omega) with hcc | hcc
            · have HX := HF.out
              rw [HON.out j hlt hcc, twEnd_no] at HX
              have HX := Lib.hid HX
              have hd : decide (F j ≤ t) = false := by simp; omega
              rw [hd] at hcall
              clear hd HF
              go_wp2_with fail
              refine wp_region_quiet_below (by kernel_rfl) (by kernel_rfl) ?_
              repeat (go_big_quiet_step ((first | (go_at_call 23; exact Calls.regrown_of (hcall.out _)))))
              refine wpQuiet_nil ?_
              intro w2 hw2
              have hk := below_of_regrown hw2
              clear hw2 k0 k1 k2 k3
              obtain ⟨hc, hf⟩ := bcell hk
              have hz := hk.size
              try simp at hz
              clear y0 y1 s0 s1
              go_wp2_with fail
              refine bodyPost_ret (results_tmp2 rfl _ _ _) rfl ⟨_, by rw [HX.out]; rfl, kept_trans KW (kept_trans hb hk), by rw [HX.out]; exact Out.nil _ _ _ _ _⟩
            · have HN2 : Hid (∀ i, i < j + 1 → F i ≤ t) := fun i hi => by
                by_cases e : i = j
                · rw [e]; exact hcc
                · exact hno.out i (by omega)
              have hd : decide (F j ≤ t) = true := by simp; omega
              rw [hd] at hcall
              clear hd
              go_wp2_with fail
              refine wp_region_quiet_below (by kernel_rfl) (by kernel_rfl) ?_
              repeat (go_big_quiet_step ((first | (go_at_call 23; exact Calls.regrown_of (hcall.out _)))))
              refine wpQuiet_nil ?_
              intro w2 hw2
              have hk := below_of_regrown hw2
              clear hw2 k0 k1 k2 k3
              obtain ⟨hc, hf⟩ := bcell hk
              have hz := hk.size
              try simp at hz
              have hownA := hown.kept hk
              have hbA := kept_trans hb hk
              clear y0 y1 s0 s1 hown
              go_wp2_with (at_builtin; refine wpList_append_own _ rfl _ _ 32 rfl _ 2 i0 _ 1 8 Tryz.underlying32 hi hz0 hz1 hz2 rfl (by decide) _ _ _ rfl ((hownA).row.alloc _) ⟨w2.heap.size, 0, none⟩ 1 1 _ (by rfl) (by rfl) (laid_at (by simp)) (by intro u hu; simp at hu; first | (rcases hu with rfl | rfl <;> rfl) | (subst hu; rfl)) (by simp only [maxLen]; omega) (by omega) (by have hbs := hbA.size; simp at hbs ⊢; omega) ?_; intro v1 w1 hown1 hgrow1 _)
              have R1 : Hid (Out w1 w4.heap.size 2 1 v1 (j + 1) (ic F)) := Out.snoc1 hown1 (by simp only [ic])
              have R2 := below_of_append hbA hownA.row hgrow1
              clear hownA hown1 hgrow1 hbA hb
              try go_wp2
              go_roundw
              case rel => exact ⟨j + 1, _, by omega, by go_num, rfl, HN2, R2, R1.out⟩
              case measure => simp [intOf]; omega
          · obtain rfl : j = n := by omega
            have HX := HF.out
            rw [HOY.out hno.out, twEnd_yes] at HX
            have HX := Lib.hid HX
            go_wp2
            refine bodyPost_ret (results_tmp2 rfl _ _ _) rfl ⟨_, by rw [HX.out]; rfl, kept_trans KW hb, by rw [HX.out]; exact hown.base_le hsz⟩
      all_goals
        have hRR : RR = false := by
          first
          | (have hd : decide (n ≤ 24) = false := by simp; omega
             rw [hd] at KR; exact KR)
          | (have hd : decide (n ≤ 24) = true := by simpa using h1
             rw [hd] at KR
             first
             | exact KR
             | (rw [h4] at KR; exact KR))
        have HF := Lib.hid (HN.out hRR)
        have HBS : Hid (∀ w, Calls Tryz.prog 20 #[.agg #[.int .i64 t, .int .i64 r, .int .i64 s, .int .i64 p], .bool false] w fun e W' => e = .returned (.int .i64 2) ∧ Below w.heap.size w W') := fun w => HBS.out false w
        clear HO hRR KR hr hr2 HY HN
        go_enter Tryz.func10, Tryz.ntmps10
        go_wp2_with (first | (go_at_call 28; refine (HVB.out _).mono ?_; rintro e w1 ⟨rfl, hb1⟩; have q0 := cell_keep hb1 Q0.out; have q1 := cell_keep hb1 Q1.out; have q2 := cell_keep hb1 Q2.out; have q3 := cell_keep hb1 Q3.out) | (go_at_call 21; have two := done1; refine (HL2.out _ ((HS2.kept hb1).kept hb2)).mono ?_; rintro e w3 ⟨rfl, hb3⟩; have q0 := cell_keep hb3 q0; have q1 := cell_keep hb3 q1; have q2 := cell_keep hb3 q2; have q3 := cell_keep hb3 q3) | (go_at_call 21; have done1 : True := trivial; refine (HL1.out _ (HS1.kept hb1)).mono ?_; rintro e w2 ⟨rfl, hb2⟩; have q0 := cell_keep hb2 q0; have q1 := cell_keep hb2 q1; have q2 := cell_keep hb2 q2; have q3 := cell_keep hb2 q3) | (go_at_call 22; refine (i_isNeed _ _).mono ?_; rintro e w' ⟨rfl, rfl⟩) | (go_at_call 20; refine (HBS.out _).mono ?_; rintro e w4 ⟨rfl, hb4⟩))
        refine bodyPost_ret (results_tmp2 rfl _ _ _) rfl ⟨_, by rw [HF.out]; rfl, (by repeat (first | assumption | exact Below.refl _ _ | refine kept_drew ?_ | refine kept_drewN ?_ _ | refine kept_alloc ?_ _ | refine kept_set ?_ ?_ _ | (simp; done) | (simp; omega) | refine kept_trans ?_ (by assumption))), by rw [HF.out]; exact Out.nil _ _ _ _ _⟩
    · have HF := Lib.hid (twRes_7 (a := a) (b := b) (rp := rp) (gr := gr) (nd := nd) hv hnm)
      have hnm' : ((n : Int) == m) = false := by simp; omega
      clear hr hr2 KR hv
      go_enter Tryz.func10, Tryz.ntmps10
      go_wp2_with (first | (go_at_call 28; refine (HVB.out _).mono ?_; rintro e w1 ⟨rfl, hb1⟩; have q0 := cell_keep hb1 Q0.out; have q1 := cell_keep hb1 Q1.out; have q2 := cell_keep hb1 Q2.out; have q3 := cell_keep hb1 Q3.out) | (go_at_call 21; have two := done1; refine (HL2.out _ ((HS2.kept hb1).kept hb2)).mono ?_; rintro e w3 ⟨rfl, hb3⟩; have q0 := cell_keep hb3 q0; have q1 := cell_keep hb3 q1; have q2 := cell_keep hb3 q2; have q3 := cell_keep hb3 q3) | (go_at_call 21; have done1 : True := trivial; refine (HL1.out _ (HS1.kept hb1)).mono ?_; rintro e w2 ⟨rfl, hb2⟩; have q0 := cell_keep hb2 q0; have q1 := cell_keep hb2 q1; have q2 := cell_keep hb2 q2; have q3 := cell_keep hb2 q3) | (go_at_call 22; refine (i_isNeed _ _).mono ?_; rintro e w' ⟨rfl, rfl⟩) | (go_at_call 20; refine (HBS.out _ _).mono ?_; rintro e w4 ⟨rfl, hb4⟩))
      refine bodyPost_ret (results_tmp2 rfl _ _ _) rfl ⟨_, by rw [HF.out]; rfl, (by repeat (first | assumption | exact Below.refl _ _ | refine kept_drew ?_ | refine kept_drewN ?_ _ | refine kept_alloc ?_ _ | refine kept_set ?_ ?_ _ | (simp; done) | (simp; omega) | refine kept_trans ?_ (by assumption))), by rw [HF.out]; exact Out.nil _ _ _ _ _⟩

end Go.Proofs.YtmgbbfbalmlpiaaGreatDoor
