/- The groups that do not fit alone: the meaning, the reference and the program. -/
import Derived.Test.YtfnollbeeehpnaaFitsI
import Derived.Test.YtfnollbeeehpnaaMark
import Derived.Test.YtfnollbeeehpnaaGLawV
namespace Go.Proofs.Ytfnollbeeehpnaa
open Go.RowKit Go.Deep
set_option linter.unusedVariables false
set_option maxRecDepth 100000

theorem infoStr : (Try.prog.info? 9).map (fun i => (i.zero, i.size, i.bytes)) = some (some (.string ⟨#[]⟩), 1, 16) := by kernel_rfl
theorem Sl.one_int {w : World} {x : Int} {t : TypeId} : Sl (w.alloc (.cells #[.int .i64 x] t)) (.slice (some ⟨w.heap.size, 0, none⟩) 1 1) 1 1 (ic fun _ => x) :=
  Sl.of_row (by omega) (Row.of_rowIs (World.rowIs_alloc w #[.int .i64 x] t (ic fun _ => x) (fun i hi => by
    have hi' : i < 1 := by simpa using hi
    match i, hi' with
    | 0, _ => rfl)))
/-- A list of texts as a slice's elements. -/
def tl (L : List ByteArray) : Nat → ByteArray := fun i => L.getD i ⟨#[]⟩
theorem tl_old (L : List ByteArray) (x : ByteArray) {i : Nat} (h : i < L.length) : tl L i = tl (L ++ [x]) i := by
  simp [tl, List.getElem?_append_left h]
theorem tl_new (L : List ByteArray) (x : ByteArray) : tl (L ++ [x]) L.length = x := by simp [tl]
theorem Out.snocT {w : World} {B : Nat} {e : TypeId} {v : Value} {L : List ByteArray} {x : ByteArray} (h : w.ownsRow B e 1 v (L.length + 1) (cellsN (sc (tl L)) (L.length * 1) ++ [.string x])) : Out w B e 1 v (L ++ [x]).length (sc (tl (L ++ [x]))) := by
  have e1 : cellsN (sc (tl L)) (L.length * 1) = cellsN (sc (tl (L ++ [x]))) (L.length * 1) := cellsN_congr (fun i hi => by simp only [sc]; rw [tl_old L x (by omega)])
  rw [e1] at h
  have := Out.snoc1 h (by simp only [sc]; rw [tl_new])
  simpa using this
/-- A group fits alone. -/
def aloneB (b c d : Nat → Int) (p q r : Int) (k : Nat) : Bool := fitB (b k) (c k) (75 * b k + 15 * c k + d k) p q r
theorem fitAll_one (b c d : Nat → Int) (p q r : Int) (k : Nat) : fitAll b c d (fun _ => (k : Int)) 1 p q r = aloneB b c d p q r k := by
  rw [fitAll_eq]
  have e (f : Nat → Int) : sumI (at' f (fun _ => (k : Int))) 1 = f k := by
    show (0 : Int) + at' f (fun _ => (k : Int)) 0 = f k
    rw [Int.zero_add]; rfl
  rw [e, e, e]; rfl
theorem aloneB_eq (b c d : Nat → Int) (p q r : Int) (k : Nat) : fitB (b k) (c k) (75 * b k + 15 * c k + d k) p q r = aloneB b c d p q r k := rfl
attribute [irreducible] tl aloneB
def bigs (fit : Nat → Bool) (a : Nat → ByteArray) : Nat → List ByteArray
  | 0 => []
  | k + 1 => if fit k then bigs fit a k else bigs fit a k ++ [a k]
theorem bigs_zero (fit : Nat → Bool) (a : Nat → ByteArray) : bigs fit a 0 = [] := rfl
theorem bigs_yes {fit : Nat → Bool} {a : Nat → ByteArray} {k : Nat} (h : fit k = true) : bigs fit a (k + 1) = bigs fit a k := by simp [bigs, h]
theorem bigs_no {fit : Nat → Bool} {a : Nat → ByteArray} {k : Nat} (h : fit k = false) : bigs fit a (k + 1) = bigs fit a k ++ [a k] := by simp [bigs, h]
theorem bigs_len (fit : Nat → Bool) (a : Nat → ByteArray) (k : Nat) : (bigs fit a k).length ≤ k := by
  induction k with
  | zero => simp [bigs]
  | succ k ih => cases h : fit k <;> simp [bigs, h] <;> omega
theorem bigs_none {fit : Nat → Bool} {a : Nat → ByteArray} : ∀ {n : Nat}, (bigs fit a n).length = 0 → ∀ k, k < n → fit k = true
  | 0, _, k, hk => absurd hk (by omega)
  | n + 1, h, k, hk => by
    cases hf : fit n
    · rw [bigs_no hf] at h; simp at h
    · rw [bigs_yes hf] at h
      by_cases e : k = n
      · rw [e]; exact hf
      · exact bigs_none h k (by omega)
theorem bigs_all {fit : Nat → Bool} {a : Nat → ByteArray} : ∀ {n : Nat}, (∀ k, k < n → fit k = true) → (bigs fit a n).length = 0
  | 0, _ => rfl
  | n + 1, h => by rw [bigs_yes (h n (by omega))]; exact bigs_all fun k hk => h k (by omega)
attribute [irreducible] bigs
/-- The code of groups and a room. -/
def gAsk (n : Nat) (a : Nat → ByteArray) (b c d : Nat → Int) (p q r : Int) : Int := if (vGroups n a b c d && vRoom p q r) = true then 0 else 1
theorem gAsk_cases (n : Nat) (a : Nat → ByteArray) (b c d : Nat → Int) (p q r : Int) : (vGroups n a b c d = false ∧ Hid (gAsk n a b c d p q r = 1)) ∨ (vGroups n a b c d = true ∧ vRoom p q r = false ∧ Hid (gAsk n a b c d p q r = 1)) ∨ (vGroups n a b c d = true ∧ vRoom p q r = true ∧ Hid (gAsk n a b c d p q r = 0)) := by
  have key : gAsk n a b c d p q r = if (vGroups n a b c d && vRoom p q r) = true then 0 else 1 := rfl
  cases h1 : vGroups n a b c d
  · exact .inl ⟨rfl, by show gAsk n a b c d p q r = 1; rw [key, h1]; rfl⟩
  · cases h2 : vRoom p q r
    · exact .inr (.inl ⟨rfl, rfl, by show gAsk n a b c d p q r = 1; rw [key, h1, h2]; rfl⟩)
    · exact .inr (.inr ⟨rfl, rfl, by show gAsk n a b c d p q r = 0; rw [key, h1, h2]; rfl⟩)
theorem gAsk_out {n : Nat} {a : Nat → ByteArray} {b c d : Nat → Int} {p q r : Int} (h : gAsk n a b c d p q r = 0) : n ≤ 12 ∧ ∀ i, i < n → (1 ≤ b i ∧ b i ≤ 200) ∧ (0 ≤ c i ∧ c i ≤ 40) ∧ (0 ≤ d i ∧ d i ≤ 100000) := by
  rcases gAsk_cases n a b c d p q r with ⟨h1, h2⟩ | ⟨h0, h1, h2⟩ | ⟨h0, h1, h2⟩
  · rw [h2.out] at h; simp at h
  · rw [h2.out] at h; simp at h
  · have := vGroups_out h0
    exact ⟨this.1, fun i hi => (vGr_out (this.2 i hi)).2⟩
theorem gAsk_two (n : Nat) (a : Nat → ByteArray) (b c d : Nat → Int) (p q r : Int) : gAsk n a b c d p q r = 1 ∨ gAsk n a b c d p q r = 0 := by
  unfold gAsk; split
  · exact .inr rfl
  · exact .inl rfl
attribute [irreducible] gAsk

theorem s_l17Ask (v : Value) (n : Nat) (a : Nat → ByteArray) (b c d : Nat → Int) (p q r : Int) (g : Nat) (W : World) (hs : Sl W v 4 n (gc a b c d)) (hx : Hid (∀ i, i < n → ((a i).size : Int) ≤ 1048576))
    (c0 : W.cell? ⟨g, 0, none⟩ = some (.int .i64 p)) (c1 : W.cell? ⟨g, 1, none⟩ = some (.int .i64 q)) (c2 : W.cell? ⟨g, 2, none⟩ = some (.int .i64 r)) :
    Calls Try.prog 73 #[v, .pointer (some ⟨g, 0, none⟩)] W fun e W' => e = .returned (.int .i64 (gAsk n a b c d p q r)) ∧ Below W.heap.size W W' := by
  have HV := Lib.hid (fun w h => s_listGroup v n a b c d w h hx)
  have HP := Lib.hid (fun w c0 c1 c2 => s_l17Room p q r g w c0 c1 c2)
  rcases gAsk_cases n a b c d p q r with ⟨h1, HG⟩ | ⟨h1, h2, HG⟩ | ⟨h1, h2, HG⟩
  · rw [h1] at HV
    clear h1
    go_enter Try.func73, Try.ntmps73
    go_wp2_with (go_at_call 59; refine (HV.out _ hs).mono ?_; rintro e w1 ⟨rfl, hb1⟩)
    go_ret
    exact ⟨by rw [HG.out]; rfl, hb1⟩
  all_goals
    rw [h1] at HV
    rw [h2] at HP
    clear h1 h2
    go_enter Try.func73, Try.ntmps73
    go_wp2_with (first | (go_at_call 64; refine (HP.out _ (cell_keep hb1 c0) (cell_keep hb1 c1) (cell_keep hb1 c2)).mono ?_; rintro e w2 ⟨rfl, rfl⟩) | (go_at_call 59; refine (HV.out _ hs).mono ?_; rintro e w1 ⟨rfl, hb1⟩))
    go_ret
    exact ⟨by rw [HG.out]; rfl, hb1⟩

theorem i_grouped (v : Value) (n : Nat) (a : Nat → ByteArray) (b c d : Nat → Int) (p q r : Int) (W : World) (hs : Sl W v 4 n (gc a b c d)) (hx : Hid (∀ i, i < n → ((a i).size : Int) ≤ 1048576)) :
    Calls Try.prog 74 #[v, .agg #[.int .i64 p, .int .i64 q, .int .i64 r]] W fun e W' => e = .returned (.int .i64 (gAsk n a b c d p q r)) ∧ Below W.heap.size W W' := by
  have KA := kept_alloc (Below.refl W.heap.size W) (.cells #[.int .i64 p, .int .i64 q, .int .i64 r] 30)
  have HSA := hs.kept KA
  have q0 : (W.alloc (.cells #[.int .i64 p, .int .i64 q, .int .i64 r] 30)).cell? ⟨W.heap.size, 0, none⟩ = some (.int .i64 p) := boxed_at rfl rfl
  have q1 : (W.alloc (.cells #[.int .i64 p, .int .i64 q, .int .i64 r] 30)).cell? ⟨W.heap.size, 1, none⟩ = some (.int .i64 q) := boxed_at rfl rfl
  have q2 : (W.alloc (.cells #[.int .i64 p, .int .i64 q, .int .i64 r] 30)).cell? ⟨W.heap.size, 2, none⟩ = some (.int .i64 r) := boxed_at rfl rfl
  have HV := Lib.hid (fun w h => i_listGroup v n a b c d w h hx)
  have HP := Lib.hid (fun w => i_ValidRoom p q r w)
  rcases gAsk_cases n a b c d p q r with ⟨h1, HG⟩ | ⟨h1, h2, HG⟩ | ⟨h1, h2, HG⟩
  · rw [h1] at HV
    clear h1
    go_enter Try.func74, Try.ntmps74
    go_wp2_with (go_at_call 18; refine (HV.out _ HSA).mono ?_; rintro e w1 ⟨rfl, hb1⟩)
    go_ret
    exact ⟨by rw [HG.out]; rfl, kept_trans KA hb1⟩
  all_goals
    rw [h1] at HV
    rw [h2] at HP
    clear h1 h2
    go_enter Try.func74, Try.ntmps74
    go_wp2_with (first | (go_at_call 67; refine (HP.out _).mono ?_; rintro e w2 ⟨rfl, hb2⟩) | (go_at_call 18; refine (HV.out _ HSA).mono ?_; rintro e w1 ⟨rfl, hb1⟩; have u0 := cell_keep hb1 q0; have u1 := cell_keep hb1 q1; have u2 := cell_keep hb1 q2))
    go_ret
    exact ⟨by rw [HG.out]; rfl, kept_trans (kept_trans KA hb1) hb2⟩

/-- The answer: the texts and the code. -/
def largeL (n : Nat) (a : Nat → ByteArray) (b c d : Nat → Int) (p q r : Int) : List ByteArray := if gAsk n a b c d p q r = 0 then bigs (aloneB b c d p q r) a n else []
theorem largeL_no {n : Nat} {a : Nat → ByteArray} {b c d : Nat → Int} {p q r : Int} (h : gAsk n a b c d p q r = 1) : largeL n a b c d p q r = [] := by unfold largeL; rw [if_neg (by rw [h]; simp)]
theorem largeL_yes {n : Nat} {a : Nat → ByteArray} {b c d : Nat → Int} {p q r : Int} (h : gAsk n a b c d p q r = 0) : largeL n a b c d p q r = bigs (aloneB b c d p q r) a n := by unfold largeL; rw [if_pos h]
theorem largeL_len (n : Nat) (a : Nat → ByteArray) (b c d : Nat → Int) (p q r : Int) (hn : n ≤ 17592186044416) : (largeL n a b c d p q r).length ≤ 17592186044416 := by
  unfold largeL; split
  · have := bigs_len (aloneB b c d p q r) a n; omega
  · simp
attribute [irreducible] largeL
def LargePost (n : Nat) (a : Nat → ByteArray) (b c d : Nat → Int) (p q r : Int) (W : World) (e : Ending) (W' : World) : Prop :=
  ∃ g, e = .returned (.tuple #[g, .int .i64 (gAsk n a b c d p q r)]) ∧ Below W.heap.size W W' ∧ Out W' W.heap.size 9 1 g (largeL n a b c d p q r).length (sc (tl (largeL n a b c d p q r)))

set_option maxHeartbeats 1600000 in
theorem s_TooLarge (v : Value) (n : Nat) (a : Nat → ByteArray) (b c d : Nat → Int) (p q r : Int) (W : World) (hs : Sl W v 4 n (gc a b c d)) (hx : Hid (∀ i, i < n → ((a i).size : Int) ≤ 1048576)) :
    Calls Try.prog 28 #[v, .agg #[.int .i64 p, .int .i64 q, .int .i64 r]] W (LargePost n a b c d p q r W) := by
  obtain ⟨i0, hi, hz0, hz1, hz2⟩ := info_parts infoStr
  have KA := kept_alloc (Below.refl W.heap.size W) (.cells #[.int .i64 p, .int .i64 q, .int .i64 r] 30)
  have HSA := hs.kept KA
  have q0 : (W.alloc (.cells #[.int .i64 p, .int .i64 q, .int .i64 r] 30)).cell? ⟨W.heap.size, 0, none⟩ = some (.int .i64 p) := boxed_at rfl rfl
  have q1 : (W.alloc (.cells #[.int .i64 p, .int .i64 q, .int .i64 r] 30)).cell? ⟨W.heap.size, 1, none⟩ = some (.int .i64 q) := boxed_at rfl rfl
  have q2 : (W.alloc (.cells #[.int .i64 p, .int .i64 q, .int .i64 r] 30)).cell? ⟨W.heap.size, 2, none⟩ = some (.int .i64 r) := boxed_at rfl rfl
  have HG := Lib.hid (fun w h c0 c1 c2 => s_l17Ask v n a b c d p q r W.heap.size w h hx c0 c1 c2)
  obtain ⟨hn, ao, cap, rfl, hr⟩ := id hs
  unfold LargePost
  rcases gAsk_two n a b c d p q r with h | h
  · rw [h] at HG
    rw [largeL_no h, h]
    clear hr h
    go_enter Try.func28, Try.ntmps28
    go_wp2_with (go_at_call 73; refine (HG.out _ HSA q0 q1 q2).mono ?_; rintro e w1 ⟨rfl, hb1⟩)
    refine bodyPost_ret (results_tmp2 rfl _ _ _) rfl ⟨_, rfl, kept_trans KA hb1, Out.nil _ _ _ _ _⟩
  · rw [h] at HG
    rw [largeL_yes h, h]
    obtain ⟨hn12, HB0⟩ := gAsk_out h
    have HB := Lib.hid HB0
    have HFT := Lib.hid (fun (k : Nat) (hk : k < n) w u h1 h2 c0 c1 c2 => s_l17Fits (.slice ao n cap) u n 1 a b c d (fun _ => (k : Int)) p q r W.heap.size w h1 h2 (by omega) (fun i hi => ⟨by omega, by show (k : Int) < n; omega⟩) HB c0 c1 c2)
    have FO := Lib.hid (fitAll_one b c d p q r)
    have BY := Lib.hid (fun k h => bigs_yes (fit := aloneB b c d p q r) (a := a) (k := k) h)
    have BN := Lib.hid (fun k h => bigs_no (fit := aloneB b c d p q r) (a := a) (k := k) h)
    have BZ := Lib.hid (bigs_zero (aloneB b c d p q r) a)
    clear HB0 h
    generalize aloneB b c d p q r = al at *
    generalize bigs al a = bg at *
    go_enter Try.func28, Try.ntmps28
    go_wp2_with (go_at_call 73; refine (HG.out _ HSA q0 q1 q2).mono ?_; rintro e w1 ⟨rfl, hb1⟩)
    have KB := kept_trans KA hb1
    have HSB := HSA.kept hb1
    have q0 := cell_keep hb1 q0
    have q1 := cell_keep hb1 q1
    have q2 := cell_keep hb1 q2
    go_loopw [7, 8] (fun u i wr => ∃ (k : Nat) (x : Value) (L : List ByteArray), k ≤ n ∧ i = .int .i64 k ∧ x = u ∧ Below w1.heap.size w1 wr ∧ L.length ≤ k ∧ Hid (bg k = L) ∧ Out wr w1.heap.size 9 1 x L.length (sc (tl L))) (fun _ i _ => n - (intOf i).toNat)
    case atStart => exact ⟨0, _, [], by omega, rfl, rfl, kept_alloc (Below.refl _ _) _, Nat.le_refl _, BZ.out, Out.empty _ _ _ _ _ (Nat.le_refl _)⟩
    case round =>
      obtain ⟨k, x, L, hk, rfl, rfl, hb, hL, HL, hown⟩ := hrel
      by_cases hlt : k < n
      · have K1 := kept_trans hb (kept_alloc (Below.refl wr.heap.size wr) (.cells #[.int .i64 k] 2))
        have HF := Lib.hid (HFT.out k hlt _ _ (HSB.kept K1) Sl.one_int (cell_keep K1 q0) (cell_keep K1 q1) (cell_keep K1 q2))
        rw [FO.out] at HF
        rcases hr with h0 | ⟨g, off, rfl, hr⟩
        · omega
        have t0 := (gccells ((hr.kept KB).kept hb) hlt).1
        have ownA := hown.kept (kept_alloc (Below.refl wr.heap.size wr) (.cells #[.int .i64 k] 2))
        clear hr hown
        cases hal : al k
        · rw [hal] at HF
          have HN : Hid (bg (k + 1) = L ++ [a k]) := by show bg _ = _; rw [BN.out k hal, HL.out]
          clear hal
          go_wp2_with (first | (go_at_call 69; refine HF.out.mono ?_; rintro e x1 ⟨rfl, hbx1⟩; have s0 := cell_keep (kept_trans (kept_alloc (Below.refl wr.heap.size wr) (.cells #[.int .i64 k] 2)) hbx1) t0; have ownB := ownA.kept hbx1; have hbB := kept_trans K1 hbx1) | (at_builtin; refine wpList_append_own _ rfl _ _ 41 rfl _ 9 i0 _ 1 16 Try.underlying41 hi hz0 hz1 hz2 rfl (by decide) _ _ _ rfl ((ownB).row.alloc _) ⟨x1.heap.size, 0, none⟩ 1 1 _ (by rfl) (by rfl) (laid_at (by simp)) (by intro u hu; simp at hu; first | (rcases hu with rfl | rfl <;> rfl) | (subst hu; rfl)) (by simp only [maxLen]; omega) (by omega) (by have hbs := hbB.size; simp at hbs ⊢; omega) ?_; intro v1 w1 hown1 hgrow1 _))
          have R1 := Lib.hid (Out.snocT hown1)
          have R2 := below_of_append hbB ownB.row hgrow1
          clear ownA ownB hown1 hgrow1 hb hbB s0 t0
          try go_wp2
          go_roundw
          case rel => exact ⟨k + 1, _, L ++ [a k], by omega, by go_num, rfl, R2, by simp; omega, HN, R1.out⟩
          case measure => simp [intOf]; omega
        · rw [hal] at HF
          have HN : Hid (bg (k + 1) = L) := by show bg _ = _; rw [BY.out k hal, HL.out]
          clear hal
          go_wp2_with (go_at_call 69; refine HF.out.mono ?_; rintro e x1 ⟨rfl, hbx1⟩)
          go_roundw
          case rel => exact ⟨k + 1, _, L, by omega, by go_num, rfl, kept_trans K1 hbx1, by omega, HN, ownA.kept hbx1⟩
          case measure => simp [intOf]; omega
      · obtain rfl : k = n := by omega
        go_wp2
        refine bodyPost_ret (results_tmp2 rfl _ _ _) rfl ⟨_, rfl, kept_trans KB hb, by rw [HL.out]; exact hown.base_le KB.size⟩

set_option maxHeartbeats 1600000 in
theorem i_tooLarge (v : Value) (n : Nat) (a : Nat → ByteArray) (b c d : Nat → Int) (p q r : Int) (W : World) (hs : Sl W v 4 n (gc a b c d)) (hn12 : n ≤ 12) (HB : Hid (∀ i, i < n → (1 ≤ b i ∧ b i ≤ 200) ∧ (0 ≤ c i ∧ c i ≤ 40) ∧ (0 ≤ d i ∧ d i ≤ 100000))) :
    Calls Try.prog 75 #[v, .agg #[.int .i64 p, .int .i64 q, .int .i64 r]] W fun e W' => ∃ g, e = .returned g ∧ Below W.heap.size W W' ∧ Out W' W.heap.size 9 1 g (bigs (aloneB b c d p q r) a n).length (sc (tl (bigs (aloneB b c d p q r) a n))) := by
  obtain ⟨i0, hi, hz0, hz1, hz2⟩ := info_parts infoStr
  have KA := kept_alloc (Below.refl W.heap.size W) (.cells #[.int .i64 p, .int .i64 q, .int .i64 r] 30)
  have q0 : (W.alloc (.cells #[.int .i64 p, .int .i64 q, .int .i64 r] 30)).cell? ⟨W.heap.size, 0, none⟩ = some (.int .i64 p) := boxed_at rfl rfl
  have q1 : (W.alloc (.cells #[.int .i64 p, .int .i64 q, .int .i64 r] 30)).cell? ⟨W.heap.size, 1, none⟩ = some (.int .i64 q) := boxed_at rfl rfl
  have q2 : (W.alloc (.cells #[.int .i64 p, .int .i64 q, .int .i64 r] 30)).cell? ⟨W.heap.size, 2, none⟩ = some (.int .i64 r) := boxed_at rfl rfl
  obtain ⟨hn, ao, cap, rfl, hr⟩ := hs
  have BY := Lib.hid (fun k h => bigs_yes (fit := aloneB b c d p q r) (a := a) (k := k) h)
  have BN := Lib.hid (fun k h => bigs_no (fit := aloneB b c d p q r) (a := a) (k := k) h)
  have BZ := Lib.hid (bigs_zero (aloneB b c d p q r) a)
  have AE := Lib.hid (aloneB_eq b c d p q r)
  generalize aloneB b c d p q r = al at *
  generalize bigs al a = bg at *
  generalize hW1 : W.alloc (.cells #[.int .i64 p, .int .i64 q, .int .i64 r] 30) = W1 at *
  have HW1 := Lib.hid hW1
  clear hW1
  go_enter Try.func75, Try.ntmps75
  go_wp2
  rw [HW1.out]
  go_loopw [5, 10] (fun u i wr => ∃ (k : Nat) (x : Value) (L : List ByteArray), k ≤ n ∧ i = .int .i64 k ∧ x = u ∧ Below W1.heap.size W1 wr ∧ L.length ≤ k ∧ Hid (bg k = L) ∧ Out wr W1.heap.size 9 1 x L.length (sc (tl L))) (fun _ i _ => n - (intOf i).toNat)
  case atStart => exact ⟨0, _, [], by omega, rfl, rfl, Below.refl _ _, Nat.le_refl _, BZ.out, Out.nil _ _ _ _ _⟩
  case round =>
    obtain ⟨k, x, L, hk, rfl, rfl, hb, hL, HL, hown⟩ := hrel
    by_cases hlt : k < n
    · rcases hr with h0 | ⟨g, off, rfl, hr⟩
      · omega
      obtain ⟨t0, t1, t2, t3⟩ := gccells ((hr.kept KA).kept hb) hlt
      obtain ⟨hbk, hck, hdk⟩ := HB.out k hlt
      have HN := Lib.hid (fun w => i_need (a k) (b k) (c k) (d k) w hbk hck hdk)
      have HF := Lib.hid (fun w => i_fits (b k) (c k) (75 * b k + 15 * c k + d k) p q r w)
      rw [AE.out] at HF
      have KX := kept_alloc (Below.refl wr.heap.size wr) (.cells #[.string (a k), .int .i64 (b k), .int .i64 (c k), .int .i64 (d k)] 78)
      have ownA := Lib.hid (hown.kept KX)
      have z0 := cell_keep (kept_trans hb KX) q0
      have z1 := cell_keep (kept_trans hb KX) q1
      have z2 := cell_keep (kept_trans hb KX) q2
      have Z0 := Lib.hid z0
      have Z1 := Lib.hid z1
      have Z2 := Lib.hid z2
      have HBW := Lib.hid (kept_trans hb KX)
      have TB : Hid ((wr.alloc (.cells #[.string (a k), .int .i64 (b k), .int .i64 (c k), .int .i64 (d k)] 78)).cell? ⟨wr.heap.size, 0, none⟩ = some (.string (a k))) := boxed_at rfl rfl
      clear hr hown hbk hck hdk
      go_upto_region 5 with (fail)
      clear KX hb t0 t1 t2 t3
      cases hal : al k
      · rw [hal] at HF
        have HN' : Hid (bg (k + 1) = L ++ [a k]) := by show bg _ = _; rw [BN.out k hal, HL.out]
        clear hal
        go_region_with (first | (go_at_call 66; refine (HN.out _).mono ?_; rintro e x1 ⟨rfl, hbx1⟩; have p0 := cell_kept (w1 := x1) Z0.out (by repeat (first | assumption | exact Below.refl _ _ | refine kept_drew ?_ | refine kept_alloc ?_ _ | refine kept_trans ?_ (by assumption))); have p1 := cell_kept (w1 := x1) Z1.out (by repeat (first | assumption | exact Below.refl _ _ | refine kept_drew ?_ | refine kept_alloc ?_ _ | refine kept_trans ?_ (by assumption))); have p2 := cell_kept (w1 := x1) Z2.out (by repeat (first | assumption | exact Below.refl _ _ | refine kept_drew ?_ | refine kept_alloc ?_ _ | refine kept_trans ?_ (by assumption)))) | (go_at_call 72; refine (HF.out _).mono ?_; rintro e x2 ⟨rfl, hbx2⟩; have s0 := cell_kept (w1 := x2) TB.out (by repeat (first | assumption | exact Below.refl _ _ | refine kept_drew ?_ | refine kept_alloc ?_ _ | refine kept_trans ?_ (by assumption))); have ownB := ownA.out.kept (w' := x2) (by repeat (first | assumption | exact Below.refl _ _ | refine kept_drew ?_ | refine kept_alloc ?_ _ | refine kept_trans ?_ (by assumption))); have hbB : Below W1.heap.size W1 x2 := kept_trans HBW.out (by repeat (first | assumption | exact Below.refl _ _ | refine kept_drew ?_ | refine kept_alloc ?_ _ | refine kept_trans ?_ (by assumption)))))
        all_goals
          go_wp2_with (at_builtin; refine wpList_append_own _ rfl _ _ 41 rfl _ 9 i0 _ 1 16 Try.underlying41 hi hz0 hz1 hz2 rfl (by decide) _ _ _ rfl ((ownB).row.alloc _) ⟨x2.heap.size, 0, none⟩ 1 1 _ (by rfl) (by rfl) (laid_at (by simp)) (by intro u hu; simp at hu; first | (rcases hu with rfl | rfl <;> rfl) | (subst hu; rfl)) (by simp only [maxLen]; omega) (by omega) (by have hbs := hbB.size; simp at hbs ⊢; omega) ?_; intro v1 w1 hown1 hgrow1 _)
          have R1 := Lib.hid (Out.snocT hown1)
          have R2 := below_of_append hbB ownB.row hgrow1
          clear ownA ownB hown1 hgrow1 hbB s0
          try go_wp2
          go_roundw
          case rel => exact ⟨k + 1, _, L ++ [a k], by omega, by go_num, rfl, R2, by simp; omega, HN', R1.out⟩
          case measure => simp [intOf]; omega
      · rw [hal] at HF
        have HN' : Hid (bg (k + 1) = L) := by show bg _ = _; rw [BY.out k hal, HL.out]
        clear hal
        go_region_with (first | (go_at_call 66; refine (HN.out _).mono ?_; rintro e x1 ⟨rfl, hbx1⟩; have p0 := cell_kept (w1 := x1) Z0.out (by repeat (first | assumption | exact Below.refl _ _ | refine kept_drew ?_ | refine kept_alloc ?_ _ | refine kept_trans ?_ (by assumption))); have p1 := cell_kept (w1 := x1) Z1.out (by repeat (first | assumption | exact Below.refl _ _ | refine kept_drew ?_ | refine kept_alloc ?_ _ | refine kept_trans ?_ (by assumption))); have p2 := cell_kept (w1 := x1) Z2.out (by repeat (first | assumption | exact Below.refl _ _ | refine kept_drew ?_ | refine kept_alloc ?_ _ | refine kept_trans ?_ (by assumption)))) | (go_at_call 72; refine (HF.out _).mono ?_; rintro e x2 ⟨rfl, hbx2⟩; have ownB := ownA.out.kept (w' := x2) (by repeat (first | assumption | exact Below.refl _ _ | refine kept_drew ?_ | refine kept_alloc ?_ _ | refine kept_trans ?_ (by assumption))); have hbB : Below W1.heap.size W1 x2 := kept_trans HBW.out (by repeat (first | assumption | exact Below.refl _ _ | refine kept_drew ?_ | refine kept_alloc ?_ _ | refine kept_trans ?_ (by assumption)))))
        all_goals
          go_wp2_with fail
          go_roundw
          case rel => exact ⟨k + 1, _, L, by omega, by go_num, rfl, hbB, by omega, HN', ownB⟩
          case measure => simp [intOf]; omega
    · obtain rfl : k = n := by omega
      clear hr
      go_wp2
      go_ret
      exact ⟨_, rfl, kept_trans KA hb, by rw [HL.out]; exact hown.base_le KA.size⟩

theorem i_TooLarge (v : Value) (n : Nat) (a : Nat → ByteArray) (b c d : Nat → Int) (p q r : Int) (W : World) (hs : Sl W v 4 n (gc a b c d)) (hx : Hid (∀ i, i < n → ((a i).size : Int) ≤ 1048576)) :
    Calls Try.prog 29 #[v, .agg #[.int .i64 p, .int .i64 q, .int .i64 r]] W (LargePost n a b c d p q r W) := by
  have KA := kept_alloc (Below.refl W.heap.size W) (.cells #[.int .i64 p, .int .i64 q, .int .i64 r] 30)
  have HSA := hs.kept KA
  have q0 : (W.alloc (.cells #[.int .i64 p, .int .i64 q, .int .i64 r] 30)).cell? ⟨W.heap.size, 0, none⟩ = some (.int .i64 p) := boxed_at rfl rfl
  have q1 : (W.alloc (.cells #[.int .i64 p, .int .i64 q, .int .i64 r] 30)).cell? ⟨W.heap.size, 1, none⟩ = some (.int .i64 q) := boxed_at rfl rfl
  have q2 : (W.alloc (.cells #[.int .i64 p, .int .i64 q, .int .i64 r] 30)).cell? ⟨W.heap.size, 2, none⟩ = some (.int .i64 r) := boxed_at rfl rfl
  have HG := Lib.hid (fun w h => i_grouped v n a b c d p q r w h hx)
  unfold LargePost
  rcases gAsk_two n a b c d p q r with h | h
  · rw [h] at HG
    rw [largeL_no h, h]
    clear h
    go_enter Try.func29, Try.ntmps29
    go_wp2_with (go_at_call 74; refine (HG.out _ HSA).mono ?_; rintro e w1 ⟨rfl, hb1⟩; have u0 := cell_keep hb1 q0; have u1 := cell_keep hb1 q1; have u2 := cell_keep hb1 q2)
    refine bodyPost_ret (results_tmp2 rfl _ _ _) rfl ⟨_, rfl, kept_trans KA hb1, Out.nil _ _ _ _ _⟩
  · rw [h] at HG
    rw [largeL_yes h, h]
    obtain ⟨hn12, HB0⟩ := gAsk_out h
    have HT := Lib.hid (fun w h => i_tooLarge v n a b c d p q r w h hn12 HB0)
    clear HB0 h
    generalize bigs (aloneB b c d p q r) a n = bg at *
    go_enter Try.func29, Try.ntmps29
    go_wp2_with (first | (go_at_call 75; refine (HT.out _ (HSA.kept hb1)).mono ?_; rintro e w2 ⟨g, rfl, hb2, ho⟩) | (go_at_call 74; refine (HG.out _ HSA).mono ?_; rintro e w1 ⟨rfl, hb1⟩; have u0 := cell_keep hb1 q0; have u1 := cell_keep hb1 q1; have u2 := cell_keep hb1 q2))
    refine bodyPost_ret (results_tmp2 rfl _ _ _) rfl ⟨_, rfl, kept_trans (kept_trans KA hb1) hb2, ho.base_le (kept_trans KA hb1).size⟩

theorem l_TooLarge {W : World} (v0 : Value) (n : Nat) (a : Nat → ByteArray) (b c d : Nat → Int) (hs : Sl W v0 4 n (gc a b c d)) (hx : Hid (∀ i, i < n → ((a i).size : Int) ≤ 9223372036854775807)) (p q r : Int) : Calls Try.prog 6 #[v0, .agg #[.int .i64 p, .int .i64 q, .int .i64 r]] W (Truly W) :=
  l_TooLarge_of v0 n a b c d p q r hs hx _ _ (largeL_len n a b c d p q r hs.1) _ (fun w u0 h hb => s_TooLarge u0 n a b c d p q r w h hb) (fun w u0 h hb => i_TooLarge u0 n a b c d p q r w h hb)

end Go.Proofs.Ytfnollbeeehpnaa
