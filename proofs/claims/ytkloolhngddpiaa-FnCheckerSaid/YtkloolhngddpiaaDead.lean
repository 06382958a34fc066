/- The states from which no ride ends: none. -/
import Derived.Test.YtkloolhngddpiaaFew
import Derived.Test.YtkloolhngddpiaaCLawR
import Derived.Lib.SliceRun
import Derived.Laws.IdiomCopy
namespace Go.Proofs.Ytkloolhngddpiaa
open Go.RowKit Go.Deep
set_option linter.unusedVariables false
set_option maxRecDepth 100000

def z5 : Array Value := #[.int .i64 0, .bool false, .bool false, .bool false, .bool false]
theorem z5_one {n : Nat} {v : Value} (h : v ∈ (Builtin.zeroCells z5 n).toList) : v.oneCell' = true := by
  simp only [Builtin.zeroCells, Array.toList_map, List.mem_map] at h
  obtain ⟨i, -, rfl⟩ := h
  have h5 : i % z5.size = 0 ∨ i % z5.size = 1 ∨ i % z5.size = 2 ∨ i % z5.size = 3 ∨ i % z5.size = 4 := by
    have : i % z5.size < 5 := Nat.mod_lt _ (by decide)
    omega
  rcases h5 with h | h | h | h | h <;> rw [h] <;> rfl
theorem z5_len (n : Nat) : (Builtin.zeroCells z5 n).toList.length = n * 5 := by
  simp [Builtin.zeroCells, z5]

theorem run_clear_states (w : World) (ty : TypeId) (g n c : Nat) (hn : 0 < n) (hc : ∀ j, j < n * 5 → (w.cell? ⟨g, 0 + j, none⟩).isSome = true) (hf : ∀ j, j < n * 5 → w.frozen? ⟨g, 0 + j, none⟩ = false) :
    (Builtin.clear_ #[61] ty #[.slice (some ⟨g, 0, none⟩) n c]).run Try.prog w = .ok (.tuple #[]) (w.setCells g 0 (Builtin.zeroCells z5 n).toList) := by
  have hv : ∀ w, (zeroValue 53).run Try.prog w = .ok (.agg z5) w := fun w => by kernel_rfl
  have hst := run_storeCells_cells (P := Try.prog) g 0 (Builtin.zeroCells z5 n).toList 0 w (by rw [z5_len]; simpa using hc) (by rw [z5_len]; simpa using hf) (fun v hv' => z5_one hv')
  simp only [Nat.add_zero] at hst
  obtain ⟨m, rfl⟩ : ∃ m, n = m + 1 := ⟨n - 1, by omega⟩
  simp [Builtin.clear_, run_underlying Try.underlying61, hv, Value.cells, hst]
theorem rowIs_setCells {g : Nat} {t : TypeId} {N : Nat} : ∀ (vs : List Value) (o : Nat) (w : World) (F : Nat → Value), w.rowIs g t N F → ∃ F', (w.setCells g o vs).rowIs g t N F'
  | [], _, _, F, h => ⟨F, h⟩
  | v :: r, o, w, F, h => rowIs_setCells r (o + 1) _ _ (h.set o v)
theorem kept_setCells {A : World} {g : Nat} (hg : A.heap.size ≤ g) : ∀ (vs : List Value) (o : Nat) (w : World), Below A.heap.size A w → Below A.heap.size A (w.setCells g o vs)
  | [], _, _, h => h
  | v :: r, o, w, h => kept_setCells hg r (o + 1) _ (kept_set h (p := ⟨g, o, none⟩) hg v)
theorem Out.rowIs_ex {w : World} {B k g n cap : Nat} {e : TypeId} {f : Nat → Value} (h : Out w B e k (.slice (some ⟨g, 0, none⟩) n cap) n f) : ∃ F, w.rowIs g e (cap * k) F ∧ B ≤ g ∧ cap ≤ maxLen ∧ n ≤ cap := by
  rcases h.2 with ⟨h1, _⟩ | ⟨g', cap', cur, h1, h2, h3, h4, h5, h6, h7⟩
  · cases h1
  · obtain ⟨rfl, rfl⟩ : g = g' ∧ cap = cap' := by simpa using h1
    exact ⟨fun i => cur.getD i undef, ⟨cur, h3, h6, fun i hi => by simp [Array.getD, show i < cur.size by omega]⟩, h2, h5, h4⟩
theorem out_none {w : World} {B k g cap : Nat} {e : TypeId} {F f : Nat → Value} (h : w.rowIs g e (cap * k) F) (hB : B ≤ g) (hc : cap ≤ maxLen) : Out w B e k (.slice (some ⟨g, 0, none⟩) 0 cap) 0 f := by
  obtain ⟨c, hc1, hs, hf⟩ := h
  exact ⟨by simp [cellsN], .inr ⟨g, cap, c, rfl, hB, hc1, Nat.zero_le _, hc, hs, by simp [cellsN]⟩⟩

theorem i_Dead1 (y : Nat) (W : World) (hy : y < 80) : Calls Try.prog 99 #[.agg #[.int .i64 (cm y : Nat), .bool (co y), .bool (ca y), .bool (cb y), .bool (ce y)]] W fun en W' => en = .returned (.bool true) ∧ Below W.heap.size W W' := by
  have HT := Lib.hid (fun w => i_toRide y w hy)
  have hp := few_pos y
  generalize few y = FF at *
  go_enter Try.func99, Try.ntmps99
  go_wp2_with (first | (go_at_call 91; refine (HT.out _).mono ?_; rintro e w2 ⟨rfl, hb2⟩))
  go_ret
  exact ⟨rfl, kept_trans (kept_alloc (Below.refl _ _) _) hb2⟩

theorem dead_enters : ∀ args w, (callFunc 99 args).run Try.prog w = .ok (.enter 99 args) w := enters Try.func99 (by kernel_rfl) rfl

set_option maxHeartbeats 800000 in
theorem i_DeadIndex (g n cap : Nat) (L : List Nat) (W : World) (hr : Row W g 0 (n * 5) (stc L)) (hn : 1 ≤ n ∧ n ≤ 100) (hl : Hid (∀ i, i < n → nth L i < 80)) :
    Calls Try.prog 105 #[.slice (some ⟨g, 0, none⟩) n cap, .func (.func 99) #[] #[]] W fun en W' => en = .returned (.int .i64 0) ∧ Below W.heap.size W W' := by
  obtain ⟨hn1, hn2⟩ := hn
  obtain ⟨c, hc⟩ : ∃ c, nth L 0 = c := ⟨_, rfl⟩
  have hc80 : c < 80 := by rw [← hc]; exact hl.out 0 (by omega)
  obtain ⟨s0, s1, s2, s3, s4⟩ := stcells hr (e := 0) (by omega) hc
  simp only [Nat.zero_mul, Nat.zero_add] at s0 s1 s2 s3 s4
  have eg := dead_enters
  have HD := Lib.hid (fun w => i_Dead1 c w hc80)
  have hlt : (0 : Nat) < n := by omega
  clear hc hr
  go_enter Try.func105, Try.ntmps105
  go_wp2
  refine wp_loop_rounds 1 ?_
  rw [rounds_succ]
  go_wp2_with fail
  refine (HD.out _).mono ?_
  rintro e w1 ⟨rfl, hb1⟩
  clear s0 s1 s2 s3 s4
  go_wp2_with fail
  go_ret
  exact ⟨rfl, hb1⟩

theorem grown_setCells {A : World} {g : Nat} : ∀ (vs : List Value) (o : Nat) (w : World), A.grownBy w (some g) → A.grownBy (w.setCells g o vs) (some g)
  | [], _, _, h => h
  | v :: r, o, w, h => grown_setCells r (o + 1) _ (grown_set h o v)

def DelPost (g cap B : Nat) (W : World) (en : Ending) (W' : World) : Prop := en = .returned (.slice (some ⟨g, 0, none⟩) 0 cap) ∧ W.grownBy W' (some g) ∧ Out W' B 53 5 (.slice (some ⟨g, 0, none⟩) 0 cap) 0 (stc [])

set_option maxHeartbeats 1600000 in
theorem i_DeadDelete (g n cap B : Nat) (L : List Nat) (W : World) (ho : Out W B 53 5 (.slice (some ⟨g, 0, none⟩) n cap) n (stc L)) (hn : 1 ≤ n ∧ n ≤ 100) (hl : Hid (∀ i, i < n → nth L i < 80)) :
    Calls Try.prog 98 #[.slice (some ⟨g, 0, none⟩) n cap, .func (.func 99) #[] #[]] W (DelPost g cap B W) := by
  have HI := Lib.hid (fun w h => i_DeadIndex g n cap L w h hn hl)
  obtain ⟨hn1, hn2⟩ := hn
  obtain ⟨F, hrow, hBg, hcm, hncap⟩ := ho.rowIs_ex
  have hr := ho.row_at
  have HD := Lib.hid (fun y w h => i_Dead1 y w h)
  have eg := dead_enters
  have hcap0 : ¬ cap = 0 := by omega
  have hcap63 : cap ≤ 9223372036854775807 := by simpa [maxLen] using hcm
  clear ho
  unfold DelPost
  go_enter Try.func98, Try.ntmps98
  go_wp2_with (first | (go_at_call 105; refine (HI.out _ hr).mono ?_; rintro e w2 ⟨rfl, hb2⟩))
  have HRow := Lib.hid hrow
  have HR := Lib.hid hr
  clear hrow hr HI
  go_loopw [5, 6] (fun u i wr => ∃ k : Nat, 1 ≤ k ∧ k ≤ n ∧ i = .int .i64 k ∧ u = .int .i64 0 ∧ Below W.heap.size W wr) (fun _ i _ => n - (intOf i).toNat)
  case atStart => exact ⟨1, by omega, by omega, rfl, rfl, hb2⟩
  case round =>
    clear hb2
    obtain ⟨k, hk1, hk, rfl, rfl, hb⟩ := hrel
    by_cases hlt : k < n
    · obtain ⟨c, hc⟩ : ∃ c, nth L k = c := ⟨_, rfl⟩
      have hc80 : c < 80 := by rw [← hc]; exact hl.out k hlt
      obtain ⟨s0, s1, s2, s3, s4⟩ := stcells (HR.out.kept hb) hlt hc
      simp only [Nat.zero_add] at s0 s1 s2 s3 s4
      have HC := Lib.hid (fun w => HD.out c w hc80)
      clear hc
      go_wp2_with fail
      refine (HC.out _).mono ?_
      rintro e w3 ⟨rfl, hb3⟩
      clear s0 s1 s2 s3 s4
      go_wp2_with fail
      go_roundw
      case rel => exact ⟨k + 1, by omega, by omega, by go_num, rfl, kept_trans (kept_alloc hb _) hb3⟩
      case measure => simp [intOf]; omega
    · obtain rfl : k = n := by omega
      have hrow := HRow.out.of_block (hb.block _ HRow.out.lt)
      have hcl : ∀ ty, (Builtin.clear_ #[61] ty #[.slice (some ⟨g, 0, none⟩) k cap]).run Try.prog wr = .ok (.tuple #[]) (wr.setCells g 0 (Builtin.zeroCells z5 k).toList) := fun ty => run_clear_states wr ty g k cap (by omega) (fun j hj => by rw [Nat.zero_add, hrow.cell (i := j) (by omega)]; rfl) (fun j hj => by rw [Nat.zero_add]; exact hrow.frozen j)
      obtain ⟨F', hrow'⟩ := rowIs_setCells (Builtin.zeroCells z5 k).toList 0 wr _ hrow
      have R1 := Lib.hid (out_none (B := B) (k := 5) (f := stc []) hrow' hBg hcm)
      have R2 := Lib.hid (grown_setCells (g := g) (Builtin.zeroCells z5 k).toList 0 wr (grown_of_below hb (some g)))
      clear hrow hrow' hb
      go_wp2
      go_ret
      exact ⟨rfl, R2.out, R1.out⟩

theorem s_DeadStates_no (m : Int) (o a b e : Bool) (W : World) (hm : inB m 0 4 = false) :
    Calls Try.prog 51 #[.agg #[.int .i64 m, .bool o, .bool a, .bool b, .bool e]] W fun en W' => en = .returned (.tuple #[.slice none 0 0, .int .i64 1]) ∧ Below W.heap.size W W' := by
  have HO := Lib.hid (fun w h => s_l13Ok m W.heap.size 0 w h)
  rw [hm] at HO
  have q0 : (W.alloc (.cells #[.int .i64 m, .bool o, .bool a, .bool b, .bool e] 53)).cell? ⟨W.heap.size, 0, none⟩ = some (.int .i64 m) := boxed_at rfl rfl
  have Q0 := Lib.hid q0
  clear q0 hm
  go_enter Try.func51, Try.ntmps51
  go_wp2_with (go_at_call 83; refine (HO.out _ Q0.out).mono ?_; rintro e w' ⟨rfl, rfl⟩)
  go_ret2
  exact ⟨rfl, kept_alloc (Below.refl _ _) _⟩
theorem i_DeadStates_no (m : Int) (o a b e : Bool) (W : World) (hm : inB m 0 4 = false) :
    Calls Try.prog 52 #[.agg #[.int .i64 m, .bool o, .bool a, .bool b, .bool e]] W fun en W' => en = .returned (.tuple #[.slice none 0 0, .int .i64 1]) ∧ Below W.heap.size W W' := by
  have HO := Lib.hid (fun w => i_ValidControl m o a b e w)
  rw [hm] at HO
  clear hm
  go_enter Try.func52, Try.ntmps52
  go_wp2_with (go_at_call 86; refine (HO.out _).mono ?_; rintro e w2 ⟨rfl, hb2⟩)
  go_ret2
  exact ⟨rfl, kept_trans (kept_alloc (Below.refl _ _) _) hb2⟩

def DdPost (W : World) (en : Ending) (W' : World) : Prop := ∃ v1, en = .returned (.tuple #[v1, .int .i64 0]) ∧ Below W.heap.size W W' ∧ Out W' W.heap.size 53 5 v1 0 (stc [])

set_option maxHeartbeats 800000 in
theorem i_DeadStates_yes (x : Nat) (W : World) (hx : x < 80) : Calls Try.prog 52 #[.agg #[.int .i64 (cm x : Nat), .bool (co x), .bool (ca x), .bool (cb x), .bool (ce x)]] W (DdPost W) := by
  have KB := kept_alloc (Below.refl W.heap.size W) (.cells #[.int .i64 (cm x : Nat), .bool (co x), .bool (ca x), .bool (cb x), .bool (ce x)] 53)
  have hm0 : inB (cm x : Nat) 0 4 = true := inB_yes (by omega) (by have := cm_lt hx; omega)
  have Q0 : Hid ((W.alloc (.cells #[.int .i64 (cm x : Nat), .bool (co x), .bool (ca x), .bool (cb x), .bool (ce x)] 53)).cell? ⟨W.heap.size, 0, none⟩ = some (.int .i64 (cm x : Nat))) := boxed_at rfl rfl
  have Q1 : Hid ((W.alloc (.cells #[.int .i64 (cm x : Nat), .bool (co x), .bool (ca x), .bool (cb x), .bool (ce x)] 53)).cell? ⟨W.heap.size, 1, none⟩ = some (.bool (co x))) := boxed_at rfl rfl
  have Q2 : Hid ((W.alloc (.cells #[.int .i64 (cm x : Nat), .bool (co x), .bool (ca x), .bool (cb x), .bool (ce x)] 53)).cell? ⟨W.heap.size, 2, none⟩ = some (.bool (ca x))) := boxed_at rfl rfl
  have Q3 : Hid ((W.alloc (.cells #[.int .i64 (cm x : Nat), .bool (co x), .bool (ca x), .bool (cb x), .bool (ce x)] 53)).cell? ⟨W.heap.size, 3, none⟩ = some (.bool (cb x))) := boxed_at rfl rfl
  have Q4 : Hid ((W.alloc (.cells #[.int .i64 (cm x : Nat), .bool (co x), .bool (ca x), .bool (cb x), .bool (ce x)] 53)).cell? ⟨W.heap.size, 4, none⟩ = some (.bool (ce x))) := boxed_at rfl rfl
  have HO := Lib.hid (fun w => i_ValidControl (cm x : Nat) (co x) (ca x) (cb x) (ce x) w)
  rw [hm0] at HO
  have HRc := Lib.hid (fun w => i_reached x w hx)
  unfold ReachPost at HRc
  have hR20 : (R x).length ≤ 20 := (chk0_out hx).2.2.1
  have hR1 := R_pos hx
  have HLO := Lib.hid (R_low hx)
  unfold low80 at HLO
  clear hm0
  generalize M x = ms at *
  generalize R x = L at *
  obtain ⟨n, hn⟩ : ∃ n, ms.length = n := ⟨_, rfl⟩
  obtain ⟨nL, hnL⟩ : ∃ n, L.length = n := ⟨_, rfl⟩
  rw [hn] at HRc
  rw [hnL] at HRc hR20 hR1 HLO
  clear hn hnL
  go_enter Try.func52, Try.ntmps52
  go_wp2_with (first | (go_at_call 86; refine (HO.out _).mono ?_; rintro e w2 ⟨rfl, hb2⟩; have q0 := cell_keep hb2 Q0.out; have q1 := cell_keep hb2 Q1.out; have q2 := cell_keep hb2 Q2.out; have q3 := cell_keep hb2 Q3.out; have q4 := cell_keep hb2 Q4.out) | (go_at_call 87; refine (HRc.out _).mono ?_; rintro e w3 ⟨v1, v2, rfl, hb3, ho1, ho2⟩; obtain ⟨g1, cap1, rfl, hg1, -⟩ := ho1.opened (by omega)) | (go_at_call 98; refine (i_DeadDelete _ _ _ _ _ _ ho1 ⟨by omega, by omega⟩ HLO).mono ?_; rintro e w4 ⟨rfl, hg4, ho4⟩))
  have hsz := (kept_trans KB hb2).size
  have B1 := Lib.hid (kept_grown (kept_trans (kept_trans KB hb2) hb3) hg4 (fun k hk => by simp only [Option.some.injEq] at hk; omega))
  have R1 := Lib.hid (ho4.base_le hsz)
  refine bodyPost_ret (results_tmp2 rfl _ _ _) rfl ⟨_, rfl, B1.out, R1.out⟩

set_option maxHeartbeats 800000 in
theorem s_DeadStates_yes (x : Nat) (W : World) (hx : x < 80) : Calls Try.prog 51 #[.agg #[.int .i64 (cm x : Nat), .bool (co x), .bool (ca x), .bool (cb x), .bool (ce x)]] W (DdPost W) := by
  have KB := kept_alloc (Below.refl W.heap.size W) (.cells #[.int .i64 (cm x : Nat), .bool (co x), .bool (ca x), .bool (cb x), .bool (ce x)] 53)
  have hm0 : inB (cm x : Nat) 0 4 = true := inB_yes (by omega) (by have := cm_lt hx; omega)
  have Q0 : Hid ((W.alloc (.cells #[.int .i64 (cm x : Nat), .bool (co x), .bool (ca x), .bool (cb x), .bool (ce x)] 53)).cell? ⟨W.heap.size, 0, none⟩ = some (.int .i64 (cm x : Nat))) := boxed_at rfl rfl
  have Q1 : Hid ((W.alloc (.cells #[.int .i64 (cm x : Nat), .bool (co x), .bool (ca x), .bool (cb x), .bool (ce x)] 53)).cell? ⟨W.heap.size, 1, none⟩ = some (.bool (co x))) := boxed_at rfl rfl
  have Q2 : Hid ((W.alloc (.cells #[.int .i64 (cm x : Nat), .bool (co x), .bool (ca x), .bool (cb x), .bool (ce x)] 53)).cell? ⟨W.heap.size, 2, none⟩ = some (.bool (ca x))) := boxed_at rfl rfl
  have Q3 : Hid ((W.alloc (.cells #[.int .i64 (cm x : Nat), .bool (co x), .bool (ca x), .bool (cb x), .bool (ce x)] 53)).cell? ⟨W.heap.size, 3, none⟩ = some (.bool (cb x))) := boxed_at rfl rfl
  have Q4 : Hid ((W.alloc (.cells #[.int .i64 (cm x : Nat), .bool (co x), .bool (ca x), .bool (cb x), .bool (ce x)] 53)).cell? ⟨W.heap.size, 4, none⟩ = some (.bool (ce x))) := boxed_at rfl rfl
  have HO := Lib.hid (fun w h => s_l13Ok (cm x : Nat) W.heap.size 0 w h)
  rw [hm0] at HO
  have HRc := Lib.hid (fun w => s_l15Reached x w hx)
  unfold SReachPost at HRc
  have HMv := Lib.hid (fun v w h => s_l15Moves x v w hx h)
  unfold SMovesPost at HMv
  have HRi := Lib.hid (fun v vm w h1 h2 => s_l15Ride x v vm w hx h1 h2)
  unfold FarPost at HRi
  have hR20 : (R x).length ≤ 20 := (chk0_out hx).2.2.1
  have hR1 := R_pos hx
  have hM45 : (M x).length ≤ 45 := (chk0_out hx).2.2.2.1
  have HF0 := Lib.hid (chk7_out hx).2
  clear hm0
  generalize far (R x).length (M x) (goals7 (M x)) = FR at *
  generalize M x = ms at *
  generalize R x = L at *
  obtain ⟨n, hn⟩ : ∃ n, ms.length = n := ⟨_, rfl⟩
  obtain ⟨nL, hnL⟩ : ∃ n, L.length = n := ⟨_, rfl⟩
  rw [hn] at HMv HRi hM45
  rw [hnL] at HRc HMv HRi hR20 hR1 HF0
  clear hn hnL
  have q0 := Q0.out
  have q1 := Q1.out
  have q2 := Q2.out
  have q3 := Q3.out
  have q4 := Q4.out
  go_enter Try.func51, Try.ntmps51
  go_wp2_with (first | (go_at_call 83; refine (HO.out _ Q0.out).mono ?_; rintro e w' ⟨rfl, rfl⟩) | (go_at_call 85; refine (HRc.out _).mono ?_; rintro e w3 ⟨v1, rfl, hb3, ho1⟩) | (go_at_call 84; refine (HMv.out _ _ (ho1.sl (by omega))).mono ?_; rintro e w4 ⟨v2, rfl, hb4, ho2⟩) | (go_at_call 90; refine (HRi.out _ _ _ ((ho1.sl (by omega)).kept hb4) (ho2.sl (by omega))).mono ?_; rintro e w5 ⟨v3, rfl, hb5, ho3⟩; obtain ⟨g3, cap3, rfl, -, hr3⟩ := ho3.opened (by omega); obtain ⟨g1, cap1, rfl, -, -⟩ := ho1.opened (by omega)))
  have HR3 := Lib.hid hr3
  have KW := kept_trans (kept_trans (kept_trans KB hb3) hb4) hb5
  have OE := Out.empty (w := w5) 53 5 (stc []) W.heap.size KW.size
  have K6 := kept_alloc (Below.refl w5.heap.size w5) (.cells #[] 53)
  have HR6 := Lib.hid (hr3.kept K6)
  clear hr3 ho3 ho1 ho2 HR3 hb3 hb4 hb5 q0 q1 q2 q3 q4 HO HRc HMv HRi
  go_loop [6, 7] (fun u i => ∃ k : Nat, k ≤ nL ∧ i = .int .i64 k ∧ u = .slice (some ⟨w5.heap.size, 0, none⟩) 0 0) (fun _ i => nL - (intOf i).toNat)
  case atStart => exact ⟨0, by omega, rfl, rfl⟩
  case round =>
    obtain ⟨k, hk, rfl, rfl⟩ := hrel
    by_cases hlt : k < nL
    · obtain ⟨a, ha⟩ : ∃ a, nth FR k = a := ⟨_, rfl⟩
      have ha1 := HF0.out k hlt
      rw [ha] at ha1
      have s0 := HR6.out.cell (i := k) (by omega)
      unfold fc at s0
      simp only [Nat.zero_add, ha] at s0
      have d0 : ¬ ((a : Int) - 1 < 0) := by omega
      clear ha
      go_wp2
      go_round
      case rel => exact ⟨k + 1, by omega, by go_num, rfl⟩
      case measure => simp [intOf]; omega
    · have B1 := Lib.hid (kept_trans KW K6)
      have R1 := Lib.hid OE
      clear OE K6 KW
      go_wp2
      refine bodyPost_ret (results_tmp2 rfl _ _ _) rfl ⟨_, rfl, B1.out, R1.out⟩

theorem l_DeadStates (m : Int) (o a b e : Bool) (W : World) : Calls Try.prog 11 #[.agg #[.int .i64 m, .bool o, .bool a, .bool b, .bool e]] W (Truly W) := by
  cases hm : inB m 0 4
  · exact l_DeadStates_of m o a b e 0 [] (by omega) 1
      (fun w => (s_DeadStates_no m o a b e w hm).mono fun _ _ ⟨h1, h2⟩ => ⟨_, h1, h2, Out.nil _ _ _ _ _⟩)
      (fun w => (i_DeadStates_no m o a b e w hm).mono fun _ _ ⟨h1, h2⟩ => ⟨_, h1, h2, Out.nil _ _ _ _ _⟩)
  · obtain ⟨h0, h4⟩ := inB_out hm
    obtain ⟨c, hc, rfl, rfl, rfl, rfl, rfl⟩ := st_code (o := o) (a := a) (b := b) (e := e) h0 h4
    exact l_DeadStates_of _ _ _ _ _ 0 [] (by omega) 0 (fun w => s_DeadStates_yes c w hc) (fun w => i_DeadStates_yes c w hc)

end Go.Proofs.Ytkloolhngddpiaa
