/- The text of a ticket: the reference, the program, the law. -/
import Derived.Test.YtjoomijbbiageaaDoorDateT
import Derived.Test.YtjoomijbbiageaaDoorTkV
import Derived.Deep.DeepCutAuto
import Derived.Deep.RegionHeld3
namespace Go.Proofs.YtjoomijbbiageaaDoor
open Go.RowKit Go.Deep
set_option linter.unusedVariables false
set_option maxRecDepth 100000

theorem cell_keptT {w w1 : World} {b o : Nat} {v : Value} (hc : w.cell? ⟨b, o, none⟩ = some v) (hb : Below w.heap.size w w1) : w1.cell? ⟨b, o, none⟩ = some v := cell_keep hb hc
/-- R is the ticket's text. -/
def TkText (s : ByteArray) (b u : Int) (R : ByteArray) : Prop :=
  (vTk s b u = false ∧ R = ⟨#[]⟩) ∨ (vTk s b u = true ∧ ∃ y m, IsDate b y m ∧ R = s ++ ⟨#[32]⟩ ++ dateS y m (b - dayD y m + 1) ++ ⟨#[32]⟩ ++ decS u.toNat)

set_option maxHeartbeats 1600000 in
theorem s_l18Written (s : ByteArray) (b u y m : Int) (g : Nat) (W : World) (hs : (s.size : Int) ≤ 1048576) (hb : 0 ≤ b ∧ b ≤ 36524) (hu : 0 ≤ u ∧ u ≤ 1000) (h : IsDate b y m)
    (c0 : W.cell? ⟨g, 0, none⟩ = some (.string s)) (c1 : W.cell? ⟨g, 1, none⟩ = some (.int .i64 b)) (c2 : W.cell? ⟨g, 2, none⟩ = some (.int .i64 u)) :
    Calls Tryd.prog 9 #[.pointer (some ⟨g, 0, none⟩)] W fun e W' => e = .returned (.string (s ++ ⟨#[32]⟩ ++ dateS y m (b - dayD y m + 1) ++ ⟨#[32]⟩ ++ decS u.toNat)) ∧ Below W.heap.size W W' := by
  have HD := Lib.hid (fun w => s_l02Text b y m w h hb)
  have HU := Lib.hid (fun w => s_DecInt u (by omega) w)
  have ml := mLen_bd y m
  have z1 : (dateS y m (b - dayD y m + 1)).size ≤ 27 := by
    obtain ⟨h1, h2, h3, h4, h5, h6⟩ := h
    exact dateS_size ⟨h1, h2⟩ (by omega) (by omega)
  have z2 := decS_size (n := u.toNat) (by omega)
  have hs' : s.size ≤ 1048576 := by omega
  clear h ml
  generalize dateS y m (b - dayD y m + 1) = D at *
  generalize decS u.toNat = U at *
  have he1 : ¬ (9223372036854775807 < s.size + 1) := by omega
  have he2 : ¬ (9223372036854775807 ≤ s.size) := by omega
  have he3 : ¬ (9223372036854775807 < s.size + 1 + D.size) := by omega
  have he4 : ¬ (9223372036854775807 < s.size + 1 + D.size + 1) := by omega
  have he5 : ¬ (9223372036854775807 ≤ s.size + 1 + D.size) := by omega
  have he6 : ¬ (9223372036854775807 < s.size + 1 + D.size + 1 + U.size) := by omega
  clear hb hu
  go_enter Tryd.func9, Tryd.ntmps9
  go_upto_region 1 with (fail)
  go_region_held3 (fun w' => w'.cell? ⟨g, 0, none⟩ = some (.string s) ∧ w'.cell? ⟨g, 1, none⟩ = some (.int .i64 b) ∧ w'.cell? ⟨g, 2, none⟩ = some (.int .i64 u)) (((try dsimp only); (repeat' apply And.intro) <;> (first | (go_keep; done) | (apply cell_keptT; assumption; repeat (first | assumption | exact Below.refl _ _ | refine kept_drew ?_ | refine kept_alloc ?_ _ | refine kept_trans ?_ (by assumption)))))) (first | (go_at_call 16; refine (HD.out _).mono ?_; rintro e x1 ⟨rfl, hbx1⟩) | (go_at_call 17; refine (HU.out _).mono ?_; rintro e x2 ⟨rfl, hbx2⟩))
  all_goals
    go_wp2_with fail
    go_ret
    exact ⟨rfl, (by repeat (first | assumption | exact Below.refl _ _ | refine kept_drew ?_ | refine kept_alloc ?_ _ | refine kept_trans ?_ (by assumption)))⟩

theorem s_TicketText (s : ByteArray) (b u : Int) (R : ByteArray) (hR : TkText s b u R) (W : World) (hs : (s.size : Int) ≤ 1048576) : Calls Tryd.prog 5 #[.agg #[.string s, .int .i64 b, .int .i64 u]] W fun e W' => e = .returned (.string R) ∧ Below W.heap.size W W' := by
  have KA := kept_alloc (Below.refl W.heap.size W) (.cells #[.string s, .int .i64 b, .int .i64 u] 26)
  have q0 : (W.alloc (.cells #[.string s, .int .i64 b, .int .i64 u] 26)).cell? ⟨W.heap.size, 0, none⟩ = some (.string s) := boxed_at rfl rfl
  have q1 : (W.alloc (.cells #[.string s, .int .i64 b, .int .i64 u] 26)).cell? ⟨W.heap.size, 1, none⟩ = some (.int .i64 b) := boxed_at rfl rfl
  have q2 : (W.alloc (.cells #[.string s, .int .i64 b, .int .i64 u] 26)).cell? ⟨W.heap.size, 2, none⟩ = some (.int .i64 u) := boxed_at rfl rfl
  have HO := Lib.hid (s_l18Ticket s b u W.heap.size 0 _ hs q0 q1 q2)
  rcases hR with ⟨hv, rfl⟩ | ⟨hv, y, m, h, hT⟩
  · rw [hv] at HO
    clear hv
    go_enter Tryd.func5, Tryd.ntmps5
    go_wp2_with (go_at_call 8; refine HO.out.mono ?_; rintro e w1 ⟨rfl, rfl⟩)
    go_ret
    exact ⟨rfl, KA⟩
  · have hbd := (vTk_out hv).2
    rw [hv] at HO
    have HT := Lib.hid (s_l18Written s b u y m W.heap.size _ hs (by omega) (by omega) h q0 q1 q2)
    rw [← hT] at HT
    clear hv hbd hT h
    go_enter Tryd.func5, Tryd.ntmps5
    go_wp2_with (first | (go_at_call 8; refine HO.out.mono ?_; rintro e w1 ⟨rfl, rfl⟩) | (go_at_call 9; refine HT.out.mono ?_; rintro e w2 ⟨rfl, hb2⟩))
    go_ret
    exact ⟨rfl, kept_trans KA hb2⟩

set_option maxHeartbeats 1600000 in
theorem i_TicketText (s : ByteArray) (b u : Int) (R : ByteArray) (hR : TkText s b u R) (W : World) (hs : (s.size : Int) ≤ 1048576) (htab : Tab10 W) : Calls Tryd.prog 7 #[.agg #[.string s, .int .i64 b, .int .i64 u]] W fun e W' => e = .returned (.string R) ∧ Below W.heap.size W W' := by
  have KA := kept_alloc (Below.refl W.heap.size W) (.cells #[.string s, .int .i64 b, .int .i64 u] 26)
  have q0 : (W.alloc (.cells #[.string s, .int .i64 b, .int .i64 u] 26)).cell? ⟨W.heap.size, 0, none⟩ = some (.string s) := boxed_at rfl rfl
  have q1 : (W.alloc (.cells #[.string s, .int .i64 b, .int .i64 u] 26)).cell? ⟨W.heap.size, 1, none⟩ = some (.int .i64 b) := boxed_at rfl rfl
  have q2 : (W.alloc (.cells #[.string s, .int .i64 b, .int .i64 u] 26)).cell? ⟨W.heap.size, 2, none⟩ = some (.int .i64 u) := boxed_at rfl rfl
  have HO := Lib.hid (fun w => i_isTicket s b u w hs)
  have HTB := Lib.hid (htab.kept KA)
  rcases hR with ⟨hv, rfl⟩ | ⟨hv, y, m, h, hT⟩
  · rw [hv] at HO
    clear hv
    go_enter Tryd.func7, Tryd.ntmps7
    go_wp2_with (go_at_call 10; refine (HO.out _).mono ?_; rintro e w1 ⟨rfl, hb1⟩)
    go_ret
    exact ⟨rfl, kept_trans KA hb1⟩
  · have hbd := (vTk_out hv).2
    rw [hv] at HO
    have HD := Lib.hid (fun w ht => i_DateText b y m w h (by omega) ht)
    have HU := Lib.hid (fun w ht => i_DecInt u (by omega) w ht)
    have ml := mLen_bd y m
    have z1 : (dateS y m (b - dayD y m + 1)).size ≤ 27 := by
      obtain ⟨h1, h2, h3, h4, h5, h6⟩ := h
      exact dateS_size ⟨h1, h2⟩ (by omega) (by omega)
    have z2 := decS_size (n := u.toNat) (by omega)
    have hs' : s.size ≤ 1048576 := by omega
    clear h ml
    have HR := Lib.hid hT
    clear hT
    generalize dateS y m (b - dayD y m + 1) = D at *
    generalize decS u.toNat = U at *
    have he1 : ¬ (9223372036854775807 < s.size + 1) := by omega
    have he2 : ¬ (9223372036854775807 ≤ s.size) := by omega
    have he3 : ¬ (9223372036854775807 < s.size + 1 + D.size) := by omega
    have he4 : ¬ (9223372036854775807 < s.size + 1 + D.size + 1) := by omega
    have he5 : ¬ (9223372036854775807 ≤ s.size + 1 + D.size) := by omega
    have he6 : ¬ (9223372036854775807 < s.size + 1 + D.size + 1 + U.size) := by omega
    clear hbd hv
    go_enter Tryd.func7, Tryd.ntmps7
    go_upto_region 3 with (go_at_call 10; refine (HO.out _).mono ?_; rintro e w1 ⟨rfl, hb1⟩; have c0 := cell_keep hb1 q0; have c1 := cell_keep hb1 q1; have c2 := cell_keep hb1 q2)
    have KB := kept_trans KA hb1
    have HT1 := Lib.hid (HTB.out.kept hb1)
    clear q0 q1 q2 KA hb1 htab
    go_region_held3 (fun w' => w'.cell? ⟨W.heap.size, 0, none⟩ = some (.string s) ∧ w'.cell? ⟨W.heap.size, 1, none⟩ = some (.int .i64 b) ∧ w'.cell? ⟨W.heap.size, 2, none⟩ = some (.int .i64 u)) (((try dsimp only); (repeat' apply And.intro) <;> (first | (go_keep; done) | (apply cell_keptT; assumption; repeat (first | assumption | exact Below.refl _ _ | refine kept_drew ?_ | refine kept_alloc ?_ _ | refine kept_trans ?_ (by assumption)))))) (first | (go_at_call 11; refine (HD.out _ (HT1.out.kept (by repeat (first | assumption | exact Below.refl _ _ | refine kept_drew ?_ | refine kept_alloc ?_ _ | refine kept_trans ?_ (by assumption))))).mono ?_; rintro e x1 ⟨rfl, hbx1⟩) | (go_at_call 12; refine (HU.out _ (HT1.out.kept (by repeat (first | assumption | exact Below.refl _ _ | refine kept_drew ?_ | refine kept_alloc ?_ _ | refine kept_trans ?_ (by assumption))))).mono ?_; rintro e x2 ⟨rfl, hbx2⟩))
    all_goals
      go_wp2_with fail
      go_ret
      exact ⟨by rw [HR.out]; rfl, kept_trans KB (by repeat (first | assumption | exact Below.refl _ _ | refine kept_drew ?_ | refine kept_alloc ?_ _ | refine kept_trans ?_ (by assumption)))⟩

theorem l_TicketText (s : ByteArray) (b u : Int) (hsz : (s.size : Int) ≤ 9223372036854775807) (W : World) (htab : Tab10 W) : Calls Tryd.prog 3 #[.agg #[.string s, .int .i64 b, .int .i64 u]] W (Truly W) := by
  obtain ⟨R, hR⟩ : ∃ R, Hid (TkText s b u R) := by
    cases hv : vTk s b u
    · exact ⟨_, .inl ⟨hv, rfl⟩⟩
    · obtain ⟨y, m, h⟩ := date_of (d := b) (vTk_out hv).2.1
      exact ⟨_, .inr ⟨hv, y, m, h, rfl⟩⟩
  have KA := kept_alloc (Below.refl W.heap.size W) (.cells #[.string s, .int .i64 b, .int .i64 u] 23)
  have q0 : (W.alloc (.cells #[.string s, .int .i64 b, .int .i64 u] 23)).cell? ⟨W.heap.size, 0, none⟩ = some (.string s) := boxed_at rfl rfl
  have q1 : (W.alloc (.cells #[.string s, .int .i64 b, .int .i64 u] 23)).cell? ⟨W.heap.size, 1, none⟩ = some (.int .i64 b) := boxed_at rfl rfl
  have q2 : (W.alloc (.cells #[.string s, .int .i64 b, .int .i64 u] 23)).cell? ⟨W.heap.size, 2, none⟩ = some (.int .i64 u) := boxed_at rfl rfl
  have HTB := Lib.hid (htab.kept KA)
  go_enter Tryd.func3, Tryd.ntmps3
  go_wp2_with fail
  refine (sz_Ticket s b u _ _ (by omega) hsz).mono ?_
  rintro e x0 ⟨r, rfl, hr, hq, hb0⟩
  obtain ⟨hr1, hr2⟩ := hr
  by_cases hrn : r < 0
  · go_wp2_with fail
    go_ret
    exact ⟨rfl, kept_trans KA hb0⟩
  have hr0 : 0 ≤ r := by omega
  have hs : (s.size : Int) ≤ 1048576 := by have := hq.out hr0; omega
  have t0 := cell_keep hb0 q0
  have t1 := cell_keep hb0 q1
  have t2 := cell_keep hb0 q2
  go_wp2_with fail
  refine (l_toTicket s b u _).mono ?_
  rintro e x1 ⟨rfl, hb1⟩
  go_wp2_with fail
  refine (s_TicketText s b u R hR.out _ hs).mono ?_
  rintro e x2 ⟨rfl, hb2⟩
  have u0 := cell_keep (kept_trans hb1 hb2) t0
  have u1 := cell_keep (kept_trans hb1 hb2) t1
  have u2 := cell_keep (kept_trans hb1 hb2) t2
  go_wp2_with fail
  refine (l_toTicket s b u _).mono ?_
  rintro e x3 ⟨rfl, hb3⟩
  go_wp2_with fail
  refine (i_TicketText s b u R hR.out _ hs ((((HTB.out.kept hb0).kept hb1).kept hb2).kept hb3)).mono ?_
  rintro e x4 ⟨rfl, hb4⟩
  go_wp2_with fail
  go_ret
  exact ⟨rfl, kept_trans (kept_trans (kept_trans (kept_trans (kept_trans KA hb0) hb1) hb2) hb3) hb4⟩

end Go.Proofs.YtjoomijbbiageaaDoor
