/- The stores behind all trips, and the least gap: the functions themselves. -/
import Derived.Test.YtobpeiimiglknaaStores
namespace Go.Proofs.Ytobpeiimiglknaa
open Go.RowKit Go.Deep
set_option linter.unusedVariables false

def stR (n : Nat) (ok : Bool) : Nat × Int := if ok then (n, 0) else (0, 6)
theorem stR_yes (n : Nat) : stR n true = (n, 0) := rfl
theorem stR_no (n : Nat) : stR n false = (0, 6) := rfl
attribute [irreducible] stR
def stAsk (t r s p : Int) (n : Nat) (wt : Nat → Int) (gap : Int) : Nat × Int := if askCode (vBasin t r s p) (vWat n wt && inB gap 0 1440) = 0 then stR n (stOk n wt (p * gap) s) else (0, askCode (vBasin t r s p) (vWat n wt && inB gap 0 1440))
theorem stAsk_no {t r s p : Int} {n : Nat} {wt : Nat → Int} {gap : Int} {a b c : Bool} (h1 : vBasin t r s p = a) (h2 : vWat n wt = b) (h3 : inB gap 0 1440 = c) (h : (a && b && c) = false) : stAsk t r s p n wt gap = (0, askCode a (b && c)) := by
  unfold stAsk; rw [h1, h2, h3]; revert h; cases a <;> cases b <;> cases c <;> simp [askCode]
theorem stAsk_yes {t r s p : Int} {n : Nat} {wt : Nat → Int} {gap : Int} (h1 : vBasin t r s p = true) (h2 : vWat n wt = true) (h3 : inB gap 0 1440 = true) : stAsk t r s p n wt gap = stR n (stOk n wt (p * gap) s) := by
  unfold stAsk; rw [h1, h2, h3]; rfl
theorem stAsk_le (t r s p : Int) (n : Nat) (wt : Nat → Int) (gap : Int) (hn : n ≤ 17592186044416) : (stAsk t r s p n wt gap).1 ≤ 17592186044416 := by
  unfold stAsk
  split
  · cases stOk n wt (p * gap) s
    · rw [stR_no]; simp
    · rw [stR_yes]; exact hn
  · simp
attribute [irreducible] stAsk
def StoreAfterPost (n : Nat) (a : Nat × Int) (st : Nat → Int) (W : World) (e : Ending) (W' : World) : Prop :=
  ∃ g, e = .returned (.tuple #[g, .int .i64 a.2]) ∧ Below W.heap.size W W' ∧ Out W' W.heap.size 2 1 g a.1 (ic (fun i => st (i + 1)))

set_option maxHeartbeats 1000000 in
theorem i_StoreAfter (t r s p : Int) (v : Value) (n : Nat) (wt : Nat → Int) (gap : Int) (W : World) (hs : Sl W v 1 n (ic wt)) : Calls Try.prog 35 #[.agg #[.int .i64 t, .int .i64 r, .int .i64 s, .int .i64 p], v, .int .i64 gap] W (StoreAfterPost n (stAsk t r s p n wt gap) (stW wt (p * gap) s) W) := by
  have HV := @vBasin_out t r s p
  have HW := @vWat_out n wt
  have HG := @inB_out gap 0 1440
  have HC := Lib.hid (i_storeAfter t r s p v n wt gap)
  have k0 : ∀ d os, (Go.Sort.grow (redrawn (W.alloc (.cells #[.int .i64 t, .int .i64 r, .int .i64 s, .int .i64 p] 40)) d) os).cell? ⟨W.heap.size, 0, none⟩ = some (.int .i64 t) := fun d os => boxed 0 _ rfl d os
  have k1 : ∀ d os, (Go.Sort.grow (redrawn (W.alloc (.cells #[.int .i64 t, .int .i64 r, .int .i64 s, .int .i64 p] 40)) d) os).cell? ⟨W.heap.size, 1, none⟩ = some (.int .i64 r) := fun d os => boxed 1 _ rfl d os
  have k2 : ∀ d os, (Go.Sort.grow (redrawn (W.alloc (.cells #[.int .i64 t, .int .i64 r, .int .i64 s, .int .i64 p] 40)) d) os).cell? ⟨W.heap.size, 2, none⟩ = some (.int .i64 s) := fun d os => boxed 2 _ rfl d os
  have k3 : ∀ d os, (Go.Sort.grow (redrawn (W.alloc (.cells #[.int .i64 t, .int .i64 r, .int .i64 s, .int .i64 p] 40)) d) os).cell? ⟨W.heap.size, 3, none⟩ = some (.int .i64 p) := fun d os => boxed 3 _ rfl d os
  have HSA := hs.kept (kept_alloc (Below.refl _ _) (.cells #[.int .i64 t, .int .i64 r, .int .i64 s, .int .i64 p] 40))
  have q0 : (W.alloc (.cells #[.int .i64 t, .int .i64 r, .int .i64 s, .int .i64 p] 40)).cell? ⟨W.heap.size, 0, none⟩ = some (.int .i64 t) := boxed_at rfl rfl
  have q1 : (W.alloc (.cells #[.int .i64 t, .int .i64 r, .int .i64 s, .int .i64 p] 40)).cell? ⟨W.heap.size, 1, none⟩ = some (.int .i64 r) := boxed_at rfl rfl
  have q2 : (W.alloc (.cells #[.int .i64 t, .int .i64 r, .int .i64 s, .int .i64 p] 40)).cell? ⟨W.heap.size, 2, none⟩ = some (.int .i64 s) := boxed_at rfl rfl
  have q3 : (W.alloc (.cells #[.int .i64 t, .int .i64 r, .int .i64 s, .int .i64 p] 40)).cell? ⟨W.heap.size, 3, none⟩ = some (.int .i64 p) := boxed_at rfl rfl
  have Q0 := Lib.hid q0
  have Q1 := Lib.hid q1
  have Q2 := Lib.hid q2
  have Q3 := Lib.hid q3
  clear q0 q1 q2 q3
  obtain ⟨hn, ao, cap, rfl, hr⟩ := hs
  clear hr
  unfold StoreAfterPost
  cases hv : vBasin t r s p <;> cases hw : vWat n wt <;> cases hj : inB gap 0 1440
  case true.true.true =>
    have HF := Lib.hid (stAsk_yes hv hw hj)
    have hb := HV hv
    obtain ⟨n24, hzz⟩ := HW hw
    have HZ24 := Lib.hid hzz
    clear hzz
    have hg := HG hj
    have e1 : askCode true true = 0 := rfl
    clear HV HW HG
    have HAW := Lib.hid (fun w => i_areWaters (.slice ao n cap) n wt w)
    have HBS := Lib.hid (fun f w => i_basined t r s p f w)
    rw [hv] at HBS
    rw [hw] at HAW
    go_enter Try.func35, Try.ntmps35
    go_wp2_with (fail)
    refine wp_region_quiet_below (by kernel_rfl) (by kernel_rfl) ?_
    repeat (go_big_quiet_step ((first | (go_at_call 62; exact Calls.regrown_of (HAW.out _ (HSA.kept (below_regrown _ _ _)))) | (go_at_call 63; exact Go.Proofs.Ytobpeiimiglknaa.Calls.regrown_same (i_isDayMinute _ _)) | (go_at_call 61; exact Calls.regrown_of (HBS.out _ _)))))
    refine wpQuiet_nil ?_
    intro w2 hw2
    have hk := below_of_regrown hw2
    clear hw2 k0 k1 k2 k3
    obtain ⟨hc, hf⟩ := bcell hk
    have hz := hk.size
    try simp at hz
    have p0 := cell_keep hk Q0.out
    have p1 := cell_keep hk Q1.out
    have p2 := cell_keep hk Q2.out
    have p3 := cell_keep hk Q3.out
    go_wp2_with (fail)
    refine (HC.out _ (HSA.kept hk) n24 HZ24 (by omega) (by omega) hg).mono ?_
    cases hok : stOk n wt (p * gap) s
    · have HF2 := HF.out
      rw [hok, stR_no] at HF2
      have HF2 := Lib.hid HF2
      rintro e w3 ⟨g, rfl, hb3, ho3⟩
      go_wp2_with fail
      refine bodyPost_ret (results_tmp2 rfl _ _ _) rfl ⟨_, by rw [HF2.out]; rfl, kept_trans (kept_trans (kept_alloc (Below.refl _ _) _) hk) hb3, by rw [HF2.out]; exact Out.nil _ _ _ _ _⟩
    · have HF2 := HF.out
      rw [hok, stR_yes] at HF2
      have HF2 := Lib.hid HF2
      rintro e w3 ⟨g, rfl, hb3, ho3⟩
      rw [stN_yes] at ho3
      go_wp2_with fail
      refine bodyPost_ret (results_tmp2 rfl _ _ _) rfl ⟨_, by rw [HF2.out]; rfl, kept_trans (kept_trans (kept_alloc (Below.refl _ _) _) hk) hb3, by rw [HF2.out]; exact ho3.base_le (by have := hk.size; simp at this; omega)⟩
  all_goals
    have HF := Lib.hid (stAsk_no hv hw hj rfl)
    have e0 : askCode false false = 1 := rfl
    have e1 : askCode false true = 1 := rfl
    have e2 : askCode true false = 2 := rfl
    clear HV HW HG
    have HAW := Lib.hid (fun w => i_areWaters (.slice ao n cap) n wt w)
    have HBS := Lib.hid (fun f w => i_basined t r s p f w)
    rw [hv] at HBS
    rw [hw] at HAW
    go_enter Try.func35, Try.ntmps35
    go_wp2_with (fail)
    refine wp_region_quiet_below (by kernel_rfl) (by kernel_rfl) ?_
    repeat (go_big_quiet_step ((first | (go_at_call 62; exact Calls.regrown_of (HAW.out _ (HSA.kept (below_regrown _ _ _)))) | (go_at_call 63; exact Go.Proofs.Ytobpeiimiglknaa.Calls.regrown_same (i_isDayMinute _ _)) | (go_at_call 61; exact Calls.regrown_of (HBS.out _ _)))))
    refine wpQuiet_nil ?_
    intro w2 hw2
    have hk := below_of_regrown hw2
    clear hw2 k0 k1 k2 k3
    obtain ⟨hc, hf⟩ := bcell hk
    have hz := hk.size
    try simp at hz
    go_wp2_with (fail)
    refine bodyPost_ret (results_tmp2 rfl _ _ _) rfl ⟨_, by rw [HF.out]; rfl, kept_trans (kept_alloc (Below.refl _ _) _) hk, by rw [HF.out]; exact Out.nil _ _ _ _ _⟩

set_option maxHeartbeats 1000000 in
theorem s_StoreAfter (t r s p : Int) (v : Value) (n : Nat) (wt : Nat → Int) (gap : Int) (W : World) (hs : Sl W v 1 n (ic wt)) : Calls Try.prog 34 #[.agg #[.int .i64 t, .int .i64 r, .int .i64 s, .int .i64 p], v, .int .i64 gap] W (StoreAfterPost n (stAsk t r s p n wt gap) (stW wt (p * gap) s) W) := by
  have HV := @vBasin_out t r s p
  have HW := @vWat_out n wt
  have HG := @inB_out gap 0 1440
  have HC := Lib.hid (fun bx => s_l16Stores bx t r s p v n wt gap)
  have HSA := hs.kept (kept_alloc (Below.refl _ _) (.cells #[.int .i64 t, .int .i64 r, .int .i64 s, .int .i64 p] 40))
  have q0 : (W.alloc (.cells #[.int .i64 t, .int .i64 r, .int .i64 s, .int .i64 p] 40)).cell? ⟨W.heap.size, 0, none⟩ = some (.int .i64 t) := boxed_at rfl rfl
  have q1 : (W.alloc (.cells #[.int .i64 t, .int .i64 r, .int .i64 s, .int .i64 p] 40)).cell? ⟨W.heap.size, 1, none⟩ = some (.int .i64 r) := boxed_at rfl rfl
  have q2 : (W.alloc (.cells #[.int .i64 t, .int .i64 r, .int .i64 s, .int .i64 p] 40)).cell? ⟨W.heap.size, 2, none⟩ = some (.int .i64 s) := boxed_at rfl rfl
  have q3 : (W.alloc (.cells #[.int .i64 t, .int .i64 r, .int .i64 s, .int .i64 p] 40)).cell? ⟨W.heap.size, 3, none⟩ = some (.int .i64 p) := boxed_at rfl rfl
  have HOK := Lib.hid (s_l16Ok t r s p _ _ q0 q1 q2 q3)
  have HWT := Lib.hid (s_l16Waters v n wt _ HSA)
  have HS2 := Lib.hid (HC.out W.heap.size _ HSA)
  have Q2 := Lib.hid q2
  have Q3 := Lib.hid q3
  clear q0 q1 q2 q3 HC
  obtain ⟨hn, ao, cap, rfl, hr⟩ := hs
  clear hr
  unfold StoreAfterPost
  cases hv : vBasin t r s p <;> cases hw : vWat n wt <;> cases hj : inB gap 0 1440
  case true.true.true =>
    have HF := Lib.hid (stAsk_yes hv hw hj)
    have hb := HV hv
    obtain ⟨n24, hz⟩ := HW hw
    have hz := Lib.hid hz
    have hg := HG hj
    rw [hv] at HOK
    rw [hw] at HWT
    have hS := Lib.hid (HS2.out n24 hz (by omega) (by omega) hg Q2.out Q3.out)
    clear HV HW HG HS2 Q2 Q3
    go_enter Try.func34, Try.ntmps34
    go_wp2_with (first | (go_at_call 58; refine HOK.out.mono ?_; rintro e w' ⟨rfl, rfl⟩) | (go_at_call 59; refine HWT.out.mono ?_; rintro e w' ⟨rfl, rfl⟩) | (go_at_call 72; refine (s_l16Gap _ _).mono ?_; rintro e w' ⟨rfl, rfl⟩))
    refine hS.out.mono ?_
    cases hok : stOk n wt (p * gap) s
    · have HF2 := HF.out
      rw [hok, stR_no] at HF2
      have HF2 := Lib.hid HF2
      rintro e w3 ⟨g, rfl, hb3, ho3⟩
      go_wp2_with fail
      refine bodyPost_ret (results_tmp2 rfl _ _ _) rfl ⟨_, by rw [HF2.out]; rfl, kept_trans (kept_alloc (Below.refl _ _) _) hb3, by rw [HF2.out]; exact Out.nil _ _ _ _ _⟩
    · have HF2 := HF.out
      rw [hok, stR_yes] at HF2
      have HF2 := Lib.hid HF2
      rintro e w3 ⟨g, rfl, hb3, ho3⟩
      rw [stN_yes] at ho3
      go_wp2_with fail
      refine bodyPost_ret (results_tmp2 rfl _ _ _) rfl ⟨_, by rw [HF2.out]; rfl, kept_trans (kept_alloc (Below.refl _ _) _) hb3, by rw [HF2.out]; exact ho3.base_le (by simp)⟩
  all_goals
    have HF := Lib.hid (stAsk_no hv hw hj rfl)
    rw [hv] at HOK
    rw [hw] at HWT
    clear HV HW HG HS2
    go_enter Try.func34, Try.ntmps34
    go_wp2_with (first | (go_at_call 58; refine HOK.out.mono ?_; rintro e w' ⟨rfl, rfl⟩) | (go_at_call 59; refine HWT.out.mono ?_; rintro e w' ⟨rfl, rfl⟩) | (go_at_call 72; refine (s_l16Gap _ _).mono ?_; rintro e w' ⟨rfl, rfl⟩))
    refine bodyPost_ret (results_tmp2 rfl _ _ _) rfl ⟨_, by rw [HF.out]; rfl, kept_alloc (Below.refl _ _) _, by rw [HF.out]; exact Out.nil _ _ _ _ _⟩

theorem l_StoreAfter {W : World} (t r s p : Int) (v : Value) (n : Nat) (z : Nat → Int) (hs : Sl W v 1 n (ic z)) (_hz : ∀ i, i < n → -9223372036854775808 ≤ z i ∧ z i ≤ 9223372036854775807) (gap : Int) : Calls Try.prog 11 #[.agg #[.int .i64 t, .int .i64 r, .int .i64 s, .int .i64 p], v, .int .i64 gap] W (Truly W) :=
  l_StoreAfter_of t r s p v n z gap hs _ _ (stAsk_le t r s p n z gap hs.1) _ (fun w q h => s_StoreAfter t r s p q n z gap w h) (fun w q h => i_StoreAfter t r s p q n z gap w h)

end Go.Proofs.Ytobpeiimiglknaa
