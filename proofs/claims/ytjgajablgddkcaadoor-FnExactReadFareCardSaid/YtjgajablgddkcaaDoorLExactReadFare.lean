/- The law FnExactReadFare returns true for every input, and nothing that was there turns. No condition. -/
import Derived.Test.YtjgajablgddkcaaDoorRfS
import Derived.Test.YtjgajablgddkcaaDoorLift
import Derived.Test.YtjgajablgddkcaaDoorStr
import Derived.Test.YtjgajablgddkcaaDoorCards
import Derived.Test.YtjgajablgddkcaaDoorTie
import Derived.LaidMore
import Derived.Lay
import Derived.MakeChecks
import Derived.Stop.Joined
import Derived.SevenTiedAt
namespace Go.Proofs.YtjgajablgddkcaaDoor.lawExactReadFare
open Go.ChangeShapes Go.WideShapes Go.ChangeAt Go.RowKit Go.Joins Go.Deep
set_option linter.unusedVariables false
set_option maxRecDepth 100000

theorem walk {H : Type} {enc : TypeId × Value → H} (W : World) (base : Nat) (args : Array Value) (ds : List (DataW H)) (p : List MemPlace) (h : Opened enc Tryd.f6 W base args ds p) (htab : TabM W) :
    Calls Tryd.prog 6 args W (Truly W) := by
  have hval := h.val
  have hA := h.all
  have hlt := h.lt
  have hsz := h.sized
  clear h
  rw [Tryd.params6] at hA hval hsz
  obtain ⟨v0, vs0, d0, ds0, p0, q0, hargs, rfl, rfl, h0, r0⟩ := trodAll_cons hA
  obtain ⟨rfl, rfl, rfl⟩ := trodAll_nil r0
  obtain rfl : args = #[v0] := by cases args; simp_all
  obtain ⟨s0, rfl, rfl, rfl, ws0⟩ := open_str Tryd.underlying9 (hval 0 9 v0 rfl rfl) h0 (weights_at hsz (j := 0) rfl rfl)
  exact l_ReadFare s0 ws0 W htab

theorem par : ∀ t ∈ Tryd.f6.params.toList, Tryd.prog.readableRec t = true ∧ t < Tryd.prog.types.size := by
  intro t ht
  rw [Tryd.params6] at ht
  have h : t = 9 := by simpa using ht
  subst h
  exact ⟨by kernel_rfl, of_decide_eq_true (by kernel_rfl)⟩

/-- What the listed tables give a walk. -/
theorem tab_of {W : World} (h : laidMetH Tryd.prog Rows.fnExactReadFareRow.laid W) (hsh : W.ShapedOpen Tryd.prog) : TabM W := by
  rw [MakeChecks.laidMetH_plain _ _ _ (by kernel_rfl)] at h
  obtain ⟨ps, ⟨g0, t0, cs0, f0, p0, q0, hg0, ht0, hv0, hd0, ⟨g1, t1, cs1, f1, p1, q1, hg1, ht1, hv1, hd1, ⟨g2, t2, cs2, f2, p2, q2, hg2, ht2, hv2, hd2, ⟨g3, t3, cs3, f3, p3, q3, hg3, ht3, hv3, hd3, ⟨g4, t4, cs4, f4, p4, q4, hg4, ht4, hv4, hd4, ⟨g5, t5, cs5, f5, p5, q5, hg5, ht5, hv5, hd5, _, _⟩, _⟩, _⟩, _⟩, _⟩, _⟩, _, _⟩ := h
  have e : (Rows.laid_internal_strconv_uint64pow10 : DataW Unit) = Lib.tabData .u64 Lib.pow10Tab := by rfl
  rw [e] at hd2
  obtain rfl := Option.some.inj ((show Tryd.prog.globalNamed "internal/strconv.uint64pow10" = some 3 by kernel_rfl).symm.trans hg2)
  obtain rfl := Option.some.inj ((show (Tryd.prog.globals[3]?).map (·.type) = some 130 by kernel_rfl).symm.trans ht2)
  obtain rfl := Option.some.inj ((show Tryd.prog.globalNamed "strconv.ErrSyntax" = some 1 by kernel_rfl).symm.trans hg5)
  obtain rfl := Option.some.inj ((show (Tryd.prog.globals[1]?).map (·.type) = some 70 by kernel_rfl).symm.trans ht5)
  obtain ⟨u, v, hcs⟩ := iface_of Tryd.underlying70 hd5
  have hcs2 : cs5 = #[.iface u v] := by cases cs5; simp_all
  refine ⟨?_, by unfold ErrS; exact ⟨u, v, by rw [hv5, hcs2]⟩, maxLen_some hsh⟩
  unfold Tab10 Lib.TabIs
  rw [hv2, ← Lib.cells_of_tab Tryd.underlying130 Tryd.underlying94 (by kernel_rfl) (by kernel_rfl) hd2]

/-- The door's own heap holds the tables. -/
theorem door_met (os : Os) (args : Array Value) : laidMetH Tryd.prog Rows.fnExactReadFareRow.laid ((World.laidAll Tryd.prog os Rows.fnExactReadFareRow.laid).forCall (fun _ _ => 0) ⟨#[], args, []⟩).memory := by
  rw [MakeChecks.laidMetH_plain _ _ _ (by kernel_rfl)]
  exact laidMet_laidAll _ (by kernel_rfl) (by kernel_rfl)

set_option maxRecDepth 100000 in
theorem lifted (os : Os) (started : os.Started) (H : Type) (enc : TypeId × Value → H) :
    ReturnsInHanded {} Tryd.checked os 6 .any (fun w args => (Rows.fnExactReadFareSpec.pre enc Tryd.prog Tryd.f6 [] false w args ∧ laidMetH Tryd.prog Rows.fnExactReadFareRow.laid w) ∧ sizedMet enc Tryd.prog Tryd.f6 (OpenSpec.ofChange Rows.fnExactReadFareSpec) false w args)
      (Rows.fnExactReadFareSpec.post enc Tryd.prog Tryd.f6 false true false false) := by
  refine lift_both (C := Tryd.checked) (X := fun w _ => laidMetH Tryd.prog Rows.fnExactReadFareRow.laid w) (fun _ _ _ hh h => h.of_heap hh) own started (by kernel_rfl) Tryd.func6
    (ChangeSpec.witness_shaped (enc := enc) (C := Tryd.checked) (os := os) (X := fun w _ => laidMetH Tryd.prog Rows.fnExactReadFareRow.laid w) false (World.laidAll Tryd.prog os Rows.fnExactReadFareRow.laid) #[.string ⟨#[]⟩] 8 rfl (World.shaped_of_ZipB (by kernel_rfl) (by kernel_rfl)) (by kernel_rfl) (by kernel_rfl) (by kernel_rfl) (door_met os _)) ?_
  intro W base args ds gs before hval0 hW _ hsz hL _
  have hlt := hW.lt
  have hW' := hW
  obtain ⟨p, q, hA, hV, rfl, _, _⟩ := hW
  obtain ⟨rfl, rfl⟩ := trodVars_none hV
  simp only [List.append_nil] at hlt
  have hsz2 : (DataW.weightsEach Tryd.prog Tryd.f6.params.toList ds).all (· ≤ reachBytes) = true := by
    have e1 : Rows.fnExactReadFareSpec.plain.varTypes Tryd.checked.prog = [] := rfl
    rw [e1, List.append_nil, List.append_nil] at hsz
    exact hsz
  have hlen : ds.length = 1 := by
    have hA2 := hA
    rw [show Tryd.checked.prog = Tryd.prog from rfl, Tryd.params6] at hA2
    obtain ⟨v0, vs0, d0, ds0, p0, q0, -, rfl, -, -, r0⟩ := trodAll_cons hA2
    obtain ⟨-, rfl, -⟩ := trodAll_nil r0
    rfl
  obtain ⟨d0, rfl⟩ : ∃ d0, ds = [d0] := by
    match ds, hlen with
    | [d0], _ => exact ⟨d0, rfl⟩
  refine (walk W base args [d0] p ⟨hval0, hA, hlt, hsz2⟩ (tab_of hL.1 hL.2)).mono fun e W' ⟨he, hb⟩ => ?_
  subst he
  refine ⟨_, rfl, [d0], [], p ++ [], [] ++ [], p, [], hW', ?_, ?_, ?_, hb.frame _, fun h => by cases h⟩
  · exact trodAll_cons_mk (shut_bool Tryd.underlying4 _) trodAll_mk0
  · exact trodAll_stays laidOut hb par hA hlt
  · rfl

theorem said : Rows.FnExactReadFareSaid :=
  OpenClaim.holds_of_wide 6 Tryd.f6 rfl rfl rfl rfl rfl rfl rfl ⟨rfl, rfl, rfl, rfl, rfl⟩ rfl rfl rfl rfl rfl (by kernel_rfl) Tryd.func6 (by kernel_rfl)
    (of_decide_eq_true (by kernel_rfl)) (by unfold Func.isWrapper; first | (rw [if_pos (by decide +kernel)]; kernel_rfl) | (rw [if_neg (by decide +kernel)]; exact ⟨rfl, rfl⟩))
    (fun os started H enc _ => lifted os started H enc)

/-- The tied card. -/
theorem proved : Rows.FnExactReadFareCardSaid :=
  Claim7.holds_tied_plain_at .later [] Rows.fnExactReadFareCard.laidKinds true Rows.fnExactReadFareCard.stood.harness true
    said (fun _ h => by cases h) (by kernel_rfl) (fun _ h => by cases h) fnExactReadFare_row_tie rfl ⟨rfl, rfl⟩ (by kernel_rfl) rfl
    (fun f fn hf hfn => by
      obtain rfl : f = 6 := (Option.some.inj ((show Tryd.prog.funcNamed Rows.fnExactReadFareRow.func = some 6 by kernel_rfl).symm.trans hf)).symm
      obtain rfl : fn = Tryd.f6 := (Option.some.inj (Tryd.func6.symm.trans hfn)).symm
      refine ⟨by kernel_rfl, fun j t ht => ?_⟩
      have hm : t ∈ Tryd.f6.params.toList := Array.mem_toList_iff.2 (Array.mem_of_getElem? ht)
      have hall : (Tryd.f6.params.toList.all fun u => !Tryd.prog.wantsStandIn u) = true := by kernel_rfl
      exact (show Tryd.prog.wantsStandIn t = false by simpa using List.all_eq_true.1 hall t hm))
    (by kernel_rfl)
#print axioms proved
end Go.Proofs.YtjgajablgddkcaaDoor.lawExactReadFare
