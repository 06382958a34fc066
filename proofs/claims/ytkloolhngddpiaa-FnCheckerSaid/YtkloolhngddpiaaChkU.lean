/- The first unsafe state: the program's walk. -/
import Derived.Test.YtkloolhngddpiaaChkS
namespace Go.Proofs.Ytkloolhngddpiaa
open Go.RowKit Go.Deep
set_option linter.unusedVariables false
set_option maxRecDepth 100000

theorem i_Uns1 (y : Nat) (W : World) (hy : y < 80) : Calls Try.prog 106 #[.agg #[.int .i64 (cm y : Nat), .bool (co y), .bool (ca y), .bool (cb y), .bool (ce y)]] W fun en W' => en = .returned (.bool (!safeC y)) ∧ Below W.heap.size W W' := by
  have HT := Lib.hid (fun w => i_isSafeState y w hy)
  cases hs : safeC y
  all_goals
    rw [hs] at HT
    clear hs
    go_enter Try.func106, Try.ntmps106
    go_wp2_with (first | (go_at_call 107; refine (HT.out _).mono ?_; rintro e w2 ⟨rfl, hb2⟩))
    go_ret
    exact ⟨rfl, (by repeat (first | assumption | exact Below.refl _ _ | refine kept_drew ?_ | refine kept_drewN ?_ _ | refine kept_alloc ?_ _ | refine kept_set ?_ ?_ _ | (simp; done) | (simp; omega) | refine kept_trans ?_ (by assumption)))⟩

theorem uns_enters : ∀ args w, (callFunc 106 args).run Try.prog w = .ok (.enter 106 args) w := enters Try.func106 (by kernel_rfl) rfl

set_option maxHeartbeats 800000 in
theorem i_UnsIndex_yes (g n cap b : Nat) (L : List Nat) (W : World) (hr : Row W g 0 (n * 5) (stc L)) (hn : n ≤ 100) (hl : Hid (∀ i, i < n → nth L i < 80)) (hbn : b < n) (hA : Hid (∀ i, i < b → safeC (nth L i) = true)) (hB : Hid (safeC (nth L b) = false)) :
    Calls Try.prog 105 #[.slice (some ⟨g, 0, none⟩) n cap, .func (.func 106) #[] #[]] W fun en W' => en = .returned (.int .i64 (b : Nat)) ∧ Below W.heap.size W W' := by
  have eg := uns_enters
  have HR := Lib.hid hr
  clear hr
  go_enter Try.func105, Try.ntmps105
  go_wp2
  go_loopw [8] (fun i wr => ∃ k : Nat, k ≤ b ∧ i = .int .i64 k ∧ Below W.heap.size W wr) (fun i _ => n - (intOf i).toNat)
  case atStart => exact ⟨0, by omega, rfl, Below.refl _ _⟩
  case round =>
    obtain ⟨k, hk, rfl, hbw⟩ := hrel
    have hlt : k < n := by omega
    obtain ⟨c, hc⟩ : ∃ c, nth L k = c := ⟨_, rfl⟩
    have hc80 : c < 80 := by rw [← hc]; exact hl.out k hlt
    obtain ⟨s0, s1, s2, s3, s4⟩ := stcells (HR.out.kept hbw) hlt hc
    simp only [Nat.zero_add] at s0 s1 s2 s3 s4
    have hcall := Lib.hid (fun w => i_Uns1 c w hc80)
    by_cases hkb : k = b
    · have hsc : safeC c = false := by rw [← hc, hkb]; exact hB.out
      rw [hsc] at hcall
      have HKB := Lib.hid hkb
      clear hc hsc hkb hc80
      go_wp2_with fail
      refine (hcall.out _).mono ?_
      rintro e' w1 ⟨rfl, hb1⟩
      clear hcall s0 s1 s2 s3 s4
      go_wp2_with fail
      go_ret
      exact ⟨by rw [← HKB.out]; rfl, kept_trans hbw hb1⟩
    · have hsc : safeC c = true := by rw [← hc]; exact hA.out k (by omega)
      rw [hsc] at hcall
      have hkb' : k < b := by omega
      clear hc hsc hkb hc80
      go_wp2_with fail
      refine (hcall.out _).mono ?_
      rintro e' w1 ⟨rfl, hb1⟩
      clear hcall s0 s1 s2 s3 s4
      go_wp2_with fail
      go_roundw
      case rel => exact ⟨k + 1, by omega, by go_num, kept_trans hbw hb1⟩
      case measure => simp [intOf]; omega

set_option maxHeartbeats 800000 in
theorem i_UnsIndex_no (g n cap : Nat) (L : List Nat) (W : World) (hr : Row W g 0 (n * 5) (stc L)) (hn : n ≤ 100) (hl : Hid (∀ i, i < n → nth L i < 80)) (hA : Hid (∀ i, i < n → safeC (nth L i) = true)) :
    Calls Try.prog 105 #[.slice (some ⟨g, 0, none⟩) n cap, .func (.func 106) #[] #[]] W fun en W' => en = .returned (.int .i64 (-1)) ∧ Below W.heap.size W W' := by
  have eg := uns_enters
  have HR := Lib.hid hr
  clear hr
  go_enter Try.func105, Try.ntmps105
  go_wp2
  go_loopw [8] (fun i wr => ∃ k : Nat, k ≤ n ∧ i = .int .i64 k ∧ Below W.heap.size W wr) (fun i _ => n - (intOf i).toNat)
  case atStart => exact ⟨0, by omega, rfl, Below.refl _ _⟩
  case round =>
    obtain ⟨k, hk, rfl, hbw⟩ := hrel
    by_cases hlt : k < n
    · obtain ⟨c, hc⟩ : ∃ c, nth L k = c := ⟨_, rfl⟩
      have hc80 : c < 80 := by rw [← hc]; exact hl.out k hlt
      obtain ⟨s0, s1, s2, s3, s4⟩ := stcells (HR.out.kept hbw) hlt hc
      simp only [Nat.zero_add] at s0 s1 s2 s3 s4
      have hcall := Lib.hid (fun w => i_Uns1 c w hc80)
      have hsc : safeC c = true := by rw [← hc]; exact hA.out k (by omega)
      rw [hsc] at hcall
      clear hc hsc hc80
      go_wp2_with fail
      refine (hcall.out _).mono ?_
      rintro e' w1 ⟨rfl, hb1⟩
      clear hcall s0 s1 s2 s3 s4
      go_wp2_with fail
      go_roundw
      case rel => exact ⟨k + 1, by omega, by go_num, kept_trans hbw hb1⟩
      case measure => simp [intOf]; omega
    · go_wp2
      go_ret
      exact ⟨rfl, hbw⟩

set_option maxHeartbeats 800000 in
theorem i_FirstUnsafe_no (x : Nat) (W : World) (hx : x < 80) (hA : allS (R x) = true) :
    Calls Try.prog 59 #[.agg #[.int .i64 (cm x : Nat), .bool (co x), .bool (ca x), .bool (cb x), .bool (ce x)]] W fun en W' => en = .returned (.tuple #[.agg #[.int .i64 0, .bool false, .bool false, .bool false, .bool false], .int .i64 3]) ∧ Below W.heap.size W W' := by
  have KA := kept_alloc (Below.refl W.heap.size W) (.cells #[.int .i64 (cm x : Nat), .bool (co x), .bool (ca x), .bool (cb x), .bool (ce x)] 53)
  have hm0 : inB (cm x : Nat) 0 4 = true := inB_yes (by omega) (by have := cm_lt hx; omega)
  have KB := kept_alloc KA (.cells #[.int .i64 0, .bool false, .bool false, .bool false, .bool false] 53)
  have hz : (W.alloc (.cells #[.int .i64 (cm x : Nat), .bool (co x), .bool (ca x), .bool (cb x), .bool (ce x)] 53)).heap.size = W.heap.size + 1 := by simp
  have rX := (Box5.new W (.int .i64 (cm x : Nat)) (.bool (co x)) (.bool (ca x)) (.bool (cb x)) (.bool (ce x)) 53).kept (kept_alloc (Below.refl _ _) (.cells #[.int .i64 0, .bool false, .bool false, .bool false, .bool false] 53))
  have rZ := Box5.new (W.alloc (.cells #[.int .i64 (cm x : Nat), .bool (co x), .bool (ca x), .bool (cb x), .bool (ce x)] 53)) (.int .i64 0) (.bool false) (.bool false) (.bool false) (.bool false) 53
  rw [hz] at rZ
  obtain ⟨-, q0, q1, q2, q3, q4, -⟩ := id rX
  have HO := Lib.hid (fun w => i_ValidControl (cm x : Nat) (co x) (ca x) (cb x) (ce x) w)
  rw [hm0] at HO
  have HRc := Lib.hid (fun w => i_reached x w hx)
  unfold ReachPost at HRc
  have hR20 : (R x).length ≤ 20 := (chk0_out hx).2.2.1
  have hR1 := R_pos hx
  have HLO := Lib.hid (R_low hx)
  unfold low80 at HLO
  have HAL := Lib.hid (fun i (h : i < (R x).length) => allS_at hA h)
  clear hm0 hA hz KA
  generalize M x = ms at *
  generalize R x = L at *
  obtain ⟨n, hn⟩ : ∃ n, ms.length = n := ⟨_, rfl⟩
  obtain ⟨nL, hnL⟩ : ∃ n, L.length = n := ⟨_, rfl⟩
  rw [hn] at HRc
  rw [hnL] at HRc hR20 hR1 HLO HAL
  clear hn hnL
  have HIX := Lib.hid (fun g cap w h => i_UnsIndex_no g nL cap L w h (by omega) HLO HAL)
  go_enter Try.func59, Try.ntmps59
  go_wp2_with (first | (go_at_call 86; refine (HO.out _).mono ?_; rintro e w2 ⟨rfl, hb2⟩; obtain ⟨-, p0, p1, p2, p3, p4, -⟩ := id (rX.kept hb2)) | (go_at_call 87; refine (HRc.out _).mono ?_; rintro e w3 ⟨v1, v2, rfl, hb3, ho1, ho2⟩; obtain ⟨g1, cap1, rfl, hg1, -⟩ := ho1.opened (by omega)) | (go_at_call 105; refine (HIX.out _ _ _ ho1.row_at).mono ?_; rintro e w4 ⟨rfl, hb4⟩; have r1 := ((rZ.kept hb2).kept hb3).kept hb4; obtain ⟨-, y0, y1, y2, y3, y4, yf⟩ := id r1; have f0 := yf 0; have f1 := yf 1; have f2 := yf 2; have f3 := yf 3; have f4 := yf 4; have K4 := kept_trans (kept_trans (kept_trans KB hb2) hb3) hb4))
  refine bodyPost_ret (v := .tuple #[.agg #[.int .i64 0, .bool false, .bool false, .bool false, .bool false], .int .i64 3]) (by simp [results, go_sem, y0, y1, y2, y3, y4]) rfl ⟨rfl, ?_⟩
  exact kept_put K4 (by omega) _ _ _ _ _

set_option maxHeartbeats 800000 in
theorem i_FirstUnsafe_yes (x : Nat) (W : World) (hx : x < 80) (hA : allS (R x) = false) :
    Calls Try.prog 59 #[.agg #[.int .i64 (cm x : Nat), .bool (co x), .bool (ca x), .bool (cb x), .bool (ce x)]] W fun en W' => (∃ y : Nat, en = .returned (.tuple #[.agg #[.int .i64 (cm y : Nat), .bool (co y), .bool (ca y), .bool (cb y), .bool (ce y)], .int .i64 0]) ∧ y < 80 ∧ safeC y = false) ∧ Below W.heap.size W W' := by
  have KA := kept_alloc (Below.refl W.heap.size W) (.cells #[.int .i64 (cm x : Nat), .bool (co x), .bool (ca x), .bool (cb x), .bool (ce x)] 53)
  have hm0 : inB (cm x : Nat) 0 4 = true := inB_yes (by omega) (by have := cm_lt hx; omega)
  have KB := kept_alloc KA (.cells #[.int .i64 0, .bool false, .bool false, .bool false, .bool false] 53)
  have hz : (W.alloc (.cells #[.int .i64 (cm x : Nat), .bool (co x), .bool (ca x), .bool (cb x), .bool (ce x)] 53)).heap.size = W.heap.size + 1 := by simp
  have rX := (Box5.new W (.int .i64 (cm x : Nat)) (.bool (co x)) (.bool (ca x)) (.bool (cb x)) (.bool (ce x)) 53).kept (kept_alloc (Below.refl _ _) (.cells #[.int .i64 0, .bool false, .bool false, .bool false, .bool false] 53))
  have rZ := Box5.new (W.alloc (.cells #[.int .i64 (cm x : Nat), .bool (co x), .bool (ca x), .bool (cb x), .bool (ce x)] 53)) (.int .i64 0) (.bool false) (.bool false) (.bool false) (.bool false) 53
  rw [hz] at rZ
  obtain ⟨-, q0, q1, q2, q3, q4, -⟩ := id rX
  have HO := Lib.hid (fun w => i_ValidControl (cm x : Nat) (co x) (ca x) (cb x) (ce x) w)
  rw [hm0] at HO
  have HRc := Lib.hid (fun w => i_reached x w hx)
  unfold ReachPost at HRc
  have hR20 : (R x).length ≤ 20 := (chk0_out hx).2.2.1
  have hR1 := R_pos hx
  have HLO := Lib.hid (R_low hx)
  unfold low80 at HLO
  have hU := uns_at hA
  have HAL := Lib.hid (fun i (h : i < unsN (R x)) => uns_lt h)
  clear hm0 hA hz KA
  generalize M x = ms at *
  generalize R x = L at *
  generalize unsN L = b at *
  obtain ⟨n, hn⟩ : ∃ n, ms.length = n := ⟨_, rfl⟩
  obtain ⟨nL, hnL⟩ : ∃ n, L.length = n := ⟨_, rfl⟩
  rw [hn] at HRc
  rw [hnL] at HRc hR20 hR1 HLO hU
  clear hn hnL
  obtain ⟨hbn, hUb⟩ := hU
  have HUB := Lib.hid hUb
  have HIX := Lib.hid (fun g cap w h => i_UnsIndex_yes g nL cap b L w h (by omega) HLO hbn HAL HUB)
  have hy80 := HLO.out b hbn
  clear hUb
  go_enter Try.func59, Try.ntmps59
  go_wp2_with (first | (go_at_call 86; refine (HO.out _).mono ?_; rintro e w2 ⟨rfl, hb2⟩; obtain ⟨-, p0, p1, p2, p3, p4, -⟩ := id (rX.kept hb2)) | (go_at_call 87; refine (HRc.out _).mono ?_; rintro e w3 ⟨v1, v2, rfl, hb3, ho1, ho2⟩; obtain ⟨g1, cap1, rfl, hg1, -⟩ := ho1.opened (by omega)) | (go_at_call 105; refine (HIX.out _ _ _ ho1.row_at).mono ?_; rintro e w4 ⟨rfl, hb4⟩; have r1 := ((rZ.kept hb2).kept hb3).kept hb4; obtain ⟨-, y0, y1, y2, y3, y4, yf⟩ := id r1; have f0 := yf 0; have f1 := yf 1; have f2 := yf 2; have f3 := yf 3; have f4 := yf 4; have K4 := kept_trans (kept_trans (kept_trans KB hb2) hb3) hb4; obtain ⟨s0, s1, s2, s3, s4⟩ := stcells (ho1.row_at.kept hb4) hbn rfl; simp only [Nat.zero_add] at s0 s1 s2 s3 s4))
  refine bodyPost_ret (v := .tuple #[.agg #[.int .i64 (cm (nth L b) : Nat), .bool (co (nth L b)), .bool (ca (nth L b)), .bool (cb (nth L b)), .bool (ce (nth L b))], .int .i64 0]) (by simp [results, go_sem, y0, y1, y2, y3, y4]) rfl ⟨⟨_, rfl, hy80, HUB.out⟩, ?_⟩
  exact kept_put K4 (by omega) _ _ _ _ _

theorem i_FirstUnsafe (x : Nat) (W : World) (hx : x < 80) :
    Calls Try.prog 59 #[.agg #[.int .i64 (cm x : Nat), .bool (co x), .bool (ca x), .bool (cb x), .bool (ce x)]] W fun en W' => (∃ (y : Nat) (k : Int), en = .returned (.tuple #[.agg #[.int .i64 (cm y : Nat), .bool (co y), .bool (ca y), .bool (cb y), .bool (ce y)], .int .i64 k]) ∧ y < 80 ∧ ((allS (R x) = true ∧ k = 3) ∨ (allS (R x) = false ∧ k = 0 ∧ safeC y = false))) ∧ Below W.heap.size W W' := by
  cases h : allS (R x)
  · exact (i_FirstUnsafe_yes x W hx h).mono fun _ _ ⟨⟨y, h1, h2, h3⟩, h4⟩ => ⟨⟨y, 0, h1, h2, .inr ⟨rfl, rfl, h3⟩⟩, h4⟩
  · exact (i_FirstUnsafe_no x W hx h).mono fun _ _ ⟨h1, h4⟩ => ⟨⟨0, 3, h1, by omega, .inl ⟨rfl, rfl⟩⟩, h4⟩

set_option maxHeartbeats 800000 in
theorem i_AllSafe_yes (x : Nat) (W : World) (hx : x < 80) (hA : allS (R x) = true) :
    Calls Try.prog 55 #[.agg #[.int .i64 (cm x : Nat), .bool (co x), .bool (ca x), .bool (cb x), .bool (ce x)]] W fun en W' => en = .returned (.bool true) ∧ Below W.heap.size W W' := by
  have HF := Lib.hid (fun w => i_FirstUnsafe_no x w hx hA)
  clear hA
  go_enter Try.func55, Try.ntmps55
  go_wp2_with (first | (go_at_call 59; refine (HF.out _).mono ?_; rintro e w2 ⟨rfl, hb2⟩))
  go_ret
  exact ⟨rfl, (by repeat (first | assumption | exact Below.refl _ _ | refine kept_drew ?_ | refine kept_drewN ?_ _ | refine kept_alloc ?_ _ | refine kept_set ?_ ?_ _ | (simp; done) | (simp; omega) | refine kept_trans ?_ (by assumption)))⟩

set_option maxHeartbeats 800000 in
theorem i_AllSafe_no (x : Nat) (W : World) (hx : x < 80) (hA : allS (R x) = false) :
    Calls Try.prog 55 #[.agg #[.int .i64 (cm x : Nat), .bool (co x), .bool (ca x), .bool (cb x), .bool (ce x)]] W fun en W' => en = .returned (.bool false) ∧ Below W.heap.size W W' := by
  have HF := Lib.hid (fun w => i_FirstUnsafe_yes x w hx hA)
  clear hA
  go_enter Try.func55, Try.ntmps55
  go_wp2_with (first | (go_at_call 59; refine (HF.out _).mono ?_; rintro e w2 ⟨⟨y, rfl, -, -⟩, hb2⟩))
  go_ret
  exact ⟨rfl, (by repeat (first | assumption | exact Below.refl _ _ | refine kept_drew ?_ | refine kept_drewN ?_ _ | refine kept_alloc ?_ _ | refine kept_set ?_ ?_ _ | (simp; done) | (simp; omega) | refine kept_trans ?_ (by assumption)))⟩
theorem i_AllSafe (x : Nat) (W : World) (hx : x < 80) :
    Calls Try.prog 55 #[.agg #[.int .i64 (cm x : Nat), .bool (co x), .bool (ca x), .bool (cb x), .bool (ce x)]] W fun en W' => en = .returned (.bool (allS (R x))) ∧ Below W.heap.size W W' := by
  cases h : allS (R x)
  · exact i_AllSafe_no x W hx h
  · exact i_AllSafe_yes x W hx h

end Go.Proofs.Ytkloolhngddpiaa
