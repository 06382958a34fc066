/- The reference's AddRide. -/
import Derived.Test.YtcbceodlakbpdaaAddS
namespace Go.Proofs.Ytcbceodlakbpdaa
open Go.RowKit Go.Deep
set_option linter.unusedVariables false

/-- The rides with one more, as cells. -/
def addF (n : Nat) (lv tk : Nat → Int) (l t : Int) : Nat → Value := rc (insF (insK n lv l) l lv) (insF (insK n lv l) t tk)
def AddPost (n : Nat) (lv tk : Nat → Int) (l t u : Int) (W : World) (e : Ending) (W' : World) : Prop :=
  ∃ v, e = .returned (.tuple #[v, .int .i64 (addC n lv tk l t u)]) ∧ Below W.heap.size W W' ∧ Out W' W.heap.size 48 2 v (addN n lv tk l t u) (addF n lv tk l t)
theorem box2 (W : World) (a b : Value) (T : TypeId) : (W.alloc (.cells #[a, b] T)).cell? ⟨W.heap.size, 0, none⟩ = some a ∧ (W.alloc (.cells #[a, b] T)).cell? ⟨W.heap.size, 1, none⟩ = some b := by
  refine ⟨?_, ?_⟩ <;> (rw [World.cell?, show (W.alloc (.cells #[a, b] T)).heap[W.heap.size]? = some (.cells #[a, b] T (0, 0)) from heap_alloc_new W _]; rfl)

theorem ownsRow_mono {w : World} {B B' k n : Nat} {e : TypeId} {v : Value} {xs : List Value} (h : w.ownsRow B' e k v n xs) (hB : B ≤ B') : w.ownsRow B e k v n xs :=
  ⟨h.1, h.2.imp id fun ⟨g, cap, cur, h1, h2, h3⟩ => ⟨g, cap, cur, h1, Nat.le_trans hB h2, h3⟩⟩
theorem Out.mono {w : World} {B B' k n : Nat} {e : TypeId} {v : Value} {f : Nat → Value} (h : Out w B' e k v n f) (hB : B ≤ B') : Out w B e k v n f := ownsRow_mono h hB

set_option maxHeartbeats 1600000 in
theorem s_AddRide (b n cp : Nat) (lv tk : Nat → Int) (l t u : Int) (W : World) (hn : n ≤ 17592186044416) (hcp : n ≤ cp ∧ cp ≤ 9223372036854775807) (hs : Row W b 0 (n * 2) (rc lv tk)) :
    Calls Try.prog 33 #[.slice (some ⟨b, 0, none⟩) n cp, .agg #[.int .i64 l, .int .i64 t], .int .i64 u] W (AddPost n lv tk l t u W) := by
  have hW := kept_alloc (Below.refl W.heap.size W) (.cells #[.int .i64 l, .int .i64 t] 48)
  have HR1 := Lib.hid (hs.kept hW)
  have HS1 : Hid (Sl (W.alloc (.cells #[.int .i64 l, .int .i64 t] 48)) (.slice (some ⟨b, 0, none⟩) n cp) 2 n (rc lv tk)) := Sl.of_row hn HR1.out
  have Q0 := Lib.hid (box2 W (.int .i64 l) (.int .i64 t) 48)
  have HW := Lib.hid hW
  clear hW hs
  unfold AddPost
  have hbt := @table_bds n lv tk
  have hmt := @table_mono n lv tk
  rcases add_cases n lv tk l t u with ⟨h1, HF⟩ | ⟨h1, h2, HF⟩ | ⟨h1, h2, h3, HF⟩ | ⟨h1, h2, h3, hbd, h4, HF⟩ | ⟨h1, h2, h3, hbd, h4, hn24, HF⟩ | ⟨h1, h2, h3, hbd, h4, hn24, HF⟩
  · clear hbt hmt
    go_enter Try.func33, Try.ntmps33
    go_wp2_with (first
      | (go_at_call 42; refine (s_l19Ok _ n lv tk _ HS1.out).mono ?_; rintro e w1 ⟨rfl, hb1⟩; have x0 := cell_kept hb1 Q0.out.1; have x1 := cell_kept hb1 Q0.out.2; have HB1 : Hid (Below W.heap.size W w1) := kept_trans HW.out hb1))
    refine bodyPost_ret (results_tmp2 rfl _ _ _) rfl ⟨_, by rw [HF.out.1]; rfl, HB1.out, by rw [HF.out.2]; exact Out.nil _ _ _ _ _⟩
  · clear hbt hmt
    go_enter Try.func33, Try.ntmps33
    go_wp2_with (first
      | (go_at_call 42; refine (s_l19Ok _ n lv tk _ HS1.out).mono ?_; rintro e w1 ⟨rfl, hb1⟩; have x0 := cell_kept hb1 Q0.out.1; have x1 := cell_kept hb1 Q0.out.2; have HB1 : Hid (Below W.heap.size W w1) := kept_trans HW.out hb1)
      | (go_at_call 61; refine (s_l19One l t W.heap.size 0 _ x0 x1).mono ?_; rintro e w2 ⟨rfl, m2, rfl⟩))
    refine bodyPost_ret (results_tmp2 rfl _ _ _) rfl ⟨_, by rw [HF.out.1]; rfl, kept_drewN HB1.out _, by rw [HF.out.2]; exact Out.nil _ _ _ _ _⟩
  · clear hbt hmt
    go_enter Try.func33, Try.ntmps33
    go_wp2_with (first
      | (go_at_call 42; refine (s_l19Ok _ n lv tk _ HS1.out).mono ?_; rintro e w1 ⟨rfl, hb1⟩; have x0 := cell_kept hb1 Q0.out.1; have x1 := cell_kept hb1 Q0.out.2; have HB1 : Hid (Below W.heap.size W w1) := kept_trans HW.out hb1)
      | (go_at_call 61; refine (s_l19One l t W.heap.size 0 _ x0 x1).mono ?_; rintro e w2 ⟨rfl, m2, rfl⟩)
      | (go_at_call 51; refine (s_l19Minute _ _).mono ?_; rintro e w' ⟨rfl, rfl⟩))
    refine bodyPost_ret (results_tmp2 rfl _ _ _) rfl ⟨_, by rw [HF.out.1]; rfl, kept_drewN HB1.out _, by rw [HF.out.2]; exact Out.nil _ _ _ _ _⟩
  · have HBD : Hid (Bds n lv tk) := hbt h1
    clear hbt hmt
    go_enter Try.func33, Try.ntmps33
    go_wp2_with (first
      | (go_at_call 42; refine (s_l19Ok _ n lv tk _ HS1.out).mono ?_; rintro e w1 ⟨rfl, hb1⟩; have x0 := cell_kept hb1 Q0.out.1; have x1 := cell_kept hb1 Q0.out.2; have HB1 : Hid (Below W.heap.size W w1) := kept_trans HW.out hb1)
      | (go_at_call 61; refine (s_l19One l t W.heap.size 0 _ x0 x1).mono ?_; rintro e w2 ⟨rfl, m2, rfl⟩; have HS2 : Hid (Sl (w1.drewN m2) (.slice (some ⟨b, 0, none⟩) n cp) 2 n (rc lv tk)) := HS1.out.kept (kept_drewN hb1 m2); have HB2 : Hid (Below W.heap.size W (w1.drewN m2)) := kept_drewN HB1.out m2; have y0 : (w1.drewN m2).cell? ⟨W.heap.size, 0, none⟩ = some (.int .i64 l) := x0; have y1 : (w1.drewN m2).cell? ⟨W.heap.size, 1, none⟩ = some (.int .i64 t) := x1; clear x0 x1; generalize w1.drewN m2 = w2 at *)
      | (go_at_call 51; refine (s_l19Minute _ _).mono ?_; rintro e w' ⟨rfl, rfl⟩)
      | (go_at_call 52; refine (s_l19Free _ n lv tk l t u W.heap.size _ HS2.out HBD hbd y0 y1).mono ?_; rintro e w3 ⟨rfl, hb3⟩; have HB3 : Hid (Below W.heap.size W w3) := kept_trans HB2.out hb3))
    refine bodyPost_ret (results_tmp2 rfl _ _ _) rfl ⟨_, by rw [HF.out.1]; rfl, HB3.out, by rw [HF.out.2]; exact Out.nil _ _ _ _ _⟩
  · have HBD : Hid (Bds n lv tk) := hbt h1
    clear hbt hmt
    have hn1 : decide ((n : Int) = 24) = true := by simp; omega
    go_enter Try.func33, Try.ntmps33
    go_wp2_with (first
      | (go_at_call 42; refine (s_l19Ok _ n lv tk _ HS1.out).mono ?_; rintro e w1 ⟨rfl, hb1⟩; have x0 := cell_kept hb1 Q0.out.1; have x1 := cell_kept hb1 Q0.out.2; have HB1 : Hid (Below W.heap.size W w1) := kept_trans HW.out hb1)
      | (go_at_call 61; refine (s_l19One l t W.heap.size 0 _ x0 x1).mono ?_; rintro e w2 ⟨rfl, m2, rfl⟩; have HS2 : Hid (Sl (w1.drewN m2) (.slice (some ⟨b, 0, none⟩) n cp) 2 n (rc lv tk)) := HS1.out.kept (kept_drewN hb1 m2); have HB2 : Hid (Below W.heap.size W (w1.drewN m2)) := kept_drewN HB1.out m2; have y0 : (w1.drewN m2).cell? ⟨W.heap.size, 0, none⟩ = some (.int .i64 l) := x0; have y1 : (w1.drewN m2).cell? ⟨W.heap.size, 1, none⟩ = some (.int .i64 t) := x1; clear x0 x1; generalize w1.drewN m2 = w2 at *)
      | (go_at_call 51; refine (s_l19Minute _ _).mono ?_; rintro e w' ⟨rfl, rfl⟩)
      | (go_at_call 52; refine (s_l19Free _ n lv tk l t u W.heap.size _ HS2.out HBD hbd y0 y1).mono ?_; rintro e w3 ⟨rfl, hb3⟩; have HB3 : Hid (Below W.heap.size W w3) := kept_trans HB2.out hb3))
    all_goals first | omega | refine bodyPost_ret (results_tmp2 rfl _ _ _) rfl ⟨_, by rw [HF.out.1]; rfl, HB3.out, by rw [HF.out.2]; exact Out.nil _ _ _ _ _⟩
  · have HBD : Hid (Bds n lv tk) := hbt h1
    have HMT : Hid (∀ i j, i ≤ j → j < n → lv i ≤ lv j) := hmt h1
    clear hbt hmt
    have hn1 : decide ((n : Int) = 24) = false := by simp; omega
    go_enter Try.func33, Try.ntmps33
    go_wp2_with (first
      | (go_at_call 42; refine (s_l19Ok _ n lv tk _ HS1.out).mono ?_; rintro e w1 ⟨rfl, hb1⟩; have x0 := cell_kept hb1 Q0.out.1; have x1 := cell_kept hb1 Q0.out.2; have HB1 : Hid (Below W.heap.size W w1) := kept_trans HW.out hb1; have HR2 := Lib.hid (HR1.out.kept hb1))
      | (go_at_call 61; refine (s_l19One l t W.heap.size 0 _ x0 x1).mono ?_; rintro e w2 ⟨rfl, m2, rfl⟩; have HS2 : Hid (Sl (w1.drewN m2) (.slice (some ⟨b, 0, none⟩) n cp) 2 n (rc lv tk)) := HS1.out.kept (kept_drewN hb1 m2); have HR3 : Hid (Row (w1.drewN m2) b 0 (n * 2) (rc lv tk)) := HR2.out; have HB2 : Hid (Below W.heap.size W (w1.drewN m2)) := kept_drewN HB1.out m2; have y0 : (w1.drewN m2).cell? ⟨W.heap.size, 0, none⟩ = some (.int .i64 l) := x0; have y1 : (w1.drewN m2).cell? ⟨W.heap.size, 1, none⟩ = some (.int .i64 t) := x1; clear x0 x1; generalize w1.drewN m2 = w2 at *)
      | (go_at_call 51; refine (s_l19Minute _ _).mono ?_; rintro e w' ⟨rfl, rfl⟩)
      | (go_at_call 52; refine (s_l19Free _ n lv tk l t u W.heap.size _ HS2.out HBD hbd y0 y1).mono ?_; rintro e w3 ⟨rfl, hb3⟩; have HB3 : Hid (Below W.heap.size W w3) := kept_trans HB2.out hb3; have z0 := cell_kept hb3 y0; have z1 := cell_kept hb3 y1; have HR4 := Lib.hid (HR3.out.kept hb3))
      | (go_at_call 62; refine (s_l19Put b n cp lv tk l t _ (by omega) hcp HR4.out HMT).mono ?_; rintro e w4 ⟨v4, rfl, hb4, ho4⟩))
    have hsz := HB3.out.size
    refine bodyPost_ret (results_tmp2 rfl _ _ _) rfl ⟨_, by rw [HF.out.1]; rfl, kept_trans HB3.out hb4, by rw [HF.out.2]; exact Out.mono ho4 hsz⟩

end Go.Proofs.Ytcbceodlakbpdaa
