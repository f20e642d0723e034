/- FnExactScriptText: the law returns true for every input. No condition beside the card's own (the library's tables read as its text lays them). -/
import Derived.Test.YtolfclbcfddhpaaDoorCards
import Derived.Test.YtolfclbcfddhpaaDoorTie
import Derived.SevenTiedAt
import Derived.LaidMore
import Derived.MakeChecks
import Derived.OpenShut
import Derived.Test.YtolfclbcfddhpaaDoorH7
import Derived.Test.YtolfclbcfddhpaaDoorO4
import Derived.Test.YtolfclbcfddhpaaDoorO2
namespace Go.Proofs.YtolfclbcfddhpaaDoor
open Go.ChangeShapes Go.WideShapes Go.ChangeAt Go.RowKit Go.Deep
set_option maxHeartbeats 2000000 in
theorem lawScriptText_any (A : Option Addr) (c : Nat) (l : List RA) (w : World) (h : RdL cAct 3 w (.slice A l.length c) l) (ht : TabOk w) :
  Calls Tryd.prog 4 #[.slice A l.length c] w fun e w' => e = .returned (.bool true) ∧ Below w.heap.size w w' := by
 obtain ⟨h1, h2⟩ : l.length ≤ c ∧ c ≤ 9223372036854775807 := by
  obtain ⟨A', c', e0, h1, h2⟩ := h.form
  cases e0
  exact ⟨h1, h2⟩
 go_enter Tryd.func4, Tryd.ntmps4
 go_wp2_with fail
 refine (szActS_any _ l 1048576 _ h (by omega)).mono ?_
 rintro e w1 ⟨r, rfl, rfl, hr1, hr2⟩
 by_cases hneg : r < 0
 ·go_wp2_with fail
  go_ret
  exact ⟨rfl, Below.refl _ _⟩
 ·have hl : l.length ≤ 1048576 := by have := hr2 (by omega); omega
  clear hr2
  have HT := Lib.hid (fun W hr => toActS_any (.slice A l.length c) l W hr hl)
  go_wp2_with fail
  refine (HT.out w h).mono ?_
  rintro e w1 ⟨v1, rfl, own1, hb1⟩
  have hr1' : RdL cAct 3 w1 v1 l := RdS.of_own own1
  obtain ⟨A1, c1, rfl, _, _⟩ := hr1'.form
  clear own1
  go_wp2_with fail
  refine (specScriptText_any _ l w1 hr1' hl).mono ?_
  rintro e w2 ⟨rfl, hb2⟩
  have hb12 := bl_trans hb1 hb2
  have HI := Lib.hid (fun v W hr hW => implScriptText_any v l W hr hW)
  generalize scrV l = s at *
  generalize scrB l = bb at *
  clear hb1 hb2 hr1'
  go_wp2_with fail
  refine (HT.out w2 (h.below hb12)).mono ?_
  rintro e w3 ⟨v3, rfl, own3, hb3⟩
  have hr3 : RdL cAct 3 w3 v3 l := RdS.of_own own3
  obtain ⟨A3, c3, rfl, _, _⟩ := hr3.form
  have hb13 := bl_trans hb12 hb3
  clear own3 hb12 hb3
  go_wp2_with fail
  refine (HI.out _ w3 hr3 (ht.below hb13)).mono ?_
  rintro e w4 ⟨rfl, hb4⟩
  have hb14 := bl_trans hb13 hb4
  have hr4 := hr3.below hb4
  clear hb13 hb4 hr3
  go_wp2_with fail
  refine (HT.out w4 (h.below hb14)).mono ?_
  rintro e w5 ⟨v5, rfl, own5, hb5⟩
  have hr5 : RdL cAct 3 w5 v5 l := RdS.of_own own5
  obtain ⟨A5, c5, rfl, _, _⟩ := hr5.form
  have hb15 := bl_trans hb14 hb5
  have hr45 := hr4.below hb5
  clear own5 hb14 hb5 hr4
  go_wp2_with fail
  refine (eqActS_any _ _ l w5 hr45 hr5).mono ?_
  rintro e w6 ⟨rfl, hb6⟩
  go_wp2_with fail
  go_ret
  exact ⟨rfl, bl_trans hb15 hb6⟩
theorem door_met_fnExactScriptText (os : Os) (args : Array Value) : laidMetH Tryd.prog Rows.fnExactScriptTextRow.laid ((World.doorLaid Tryd.prog 62 os).forCall (fun _ _ => 0) ⟨#[], args, []⟩).memory :=
 laidMetH_of_parts3 (fuel := 8) (laidMet_of_run' 8 (by kernel_rfl) (by kernel_rfl)) (by kernel_rfl) (by kernel_rfl)
set_option maxRecDepth 100000 in
set_option maxHeartbeats 1000000 in
theorem fnExactScriptText_lifted (os : Os) (started : os.Started) (H : Type) (enc : TypeId × Value → H) :
  ReturnsInHanded {} Tryd.checked os 4 .any (fun w args => (Rows.fnExactScriptTextSpec.pre enc Tryd.prog Tryd.f4 [] false w args ∧ laidMetH Tryd.prog Rows.fnExactScriptTextRow.laid w) ∧ sizedMet enc Tryd.prog Tryd.f4 (OpenSpec.ofChange Rows.fnExactScriptTextSpec) false w args) (Rows.fnExactScriptTextSpec.post enc Tryd.prog Tryd.f4 false true false false) := by
 refine returnsInHanded_of_change_and (C := Tryd.checked) (X := fun w _ => laidMetH Tryd.prog Rows.fnExactScriptTextRow.laid w) (fun _ _ _ hh h => h.of_heap hh) tryOwn started (by kernel_rfl) Tryd.func4
  (ChangeSpec.witness_shaped (enc := enc) (C := Tryd.checked) (os := os) (X := fun w _ => laidMetH Tryd.prog Rows.fnExactScriptTextRow.laid w) false (World.doorLaid Tryd.prog 62 os) #[.slice none 0 0] 12 rfl (World.shaped_of_RefB (by kernel_rfl) (by kernel_rfl)) (by kernel_rfl) (by kernel_rfl) (by kernel_rfl) (door_met_fnExactScriptText os _)) ?_
 intro W base args ds gs before hval0 hW _ _ hL _
 have hval : ∀ (j : Nat) t v, Tryd.f4.params[j]? = some t → args[j]? = some v → Value.okWide Tryd.prog W .any base t v := hval0
 have hW' := hW
 obtain ⟨p, q, hA0, hV, rfl, hfz, hnd⟩ := hW
 have hA : DataW.TrodAll enc Tryd.prog W 0 (fun _ => true) true Tryd.f4.params.toList args.toList ds p := hA0
 rw [Tryd.params4] at hA hval
 obtain ⟨v0, vs0, d0, ds0, p0, q0, hargs, rfl, rfl, h0, r0⟩ := trodAll_cons hA
 obtain ⟨rfl, rfl, rfl⟩ := trodAll_nil r0
 obtain rfl : args = #[v0] := by cases args; simp_all
 obtain ⟨rfl, rfl⟩ := trodVars_none hV
 have e0 := h0
 have lt0 : ∀ x ∈ p0, x.block < W.heap.size := by obtain ⟨m, hm⟩ := e0; exact DataW.trod_lt m _ _ _ hm
 have ok0 := hval 0 29 v0 rfl rfl
 rw [MakeChecks.laidMetH_plain _ _ _ (by kernel_rfl)] at hL
 clear hA0 hval0 hval
 obtain ⟨xs, hrd, _⟩ := arg_slice Tryd.underlying29 ok0 h0 (opens_slice (f := cAct) (size := 3) Tryd.underlying29 (by kernel_rfl) (by omega) cAct_len opens_lawsAct)
 obtain ⟨A, c, rfl, _⟩ := RdS.form hrd
 refine (lawScriptText_any A c xs W hrd (tab3 hL)).mono fun e W' ⟨he, bel⟩ => ?_
 subst he
 exact ⟨_, rfl, _, _, _, [], _, [], hW', trodAll_mk1 (shut_bool Tryd.underlying4 _), (trodAll_cons_mk (Below.trod tryLaid (by kernel_rfl) (of_decide_eq_true (by kernel_rfl)) e0 bel lt0) trodAll_mk0), rfl, bel.frame _, fun h => by cases h⟩
theorem fnExactScriptText_row : Rows.FnExactScriptTextSaid :=
 OpenClaim.holds_of_wide 4 Tryd.f4 rfl rfl rfl rfl rfl rfl rfl ⟨rfl, rfl, rfl, rfl, rfl⟩ rfl rfl rfl rfl rfl (by kernel_rfl) Tryd.func4 (by kernel_rfl)
  (of_decide_eq_true (by kernel_rfl)) (by unfold Func.isWrapper; first | (rw [if_pos (by decide +kernel)]; kernel_rfl) | (rw [if_neg (by decide +kernel)]; exact ⟨rfl, rfl⟩))
  (fun os started H enc _ => fnExactScriptText_lifted os started H enc)
theorem fnExactScriptText_holds : Rows.FnExactScriptTextCardSaid :=
 Claim7.holds_tied_plain_at .later [] [.data, .data, .data] true (true, "d05df11f4aaa342f6cf5886e46137739f8d05fbec1cb38d5ae26fb51ed252bbd") true
  fnExactScriptText_row (fun _ h => by cases h) (by kernel_rfl) (fun _ h => by cases h) fnExactScriptText_row_tie rfl ⟨rfl, rfl⟩ (by kernel_rfl) rfl
  (fun f fn hf hfn => by
   obtain rfl : f = 4 := Option.some.inj ((show Tryd.prog.funcNamed "loop.example/g03306/laws.FnExactScriptText" = some 4 by kernel_rfl).symm.trans hf) |>.symm
   obtain rfl : fn = Tryd.f4 := (Option.some.inj (Tryd.func4.symm.trans hfn)).symm
   exact ⟨by kernel_rfl, fun j t ht => by
    rw [Tryd.params4] at ht
    have hm : t ∈ [29] := by simpa using Array.mem_of_getElem? ht
    have hall : ([29].all fun u => !Tryd.prog.wantsStandIn u) = true := by kernel_rfl
    exact (show Tryd.prog.wantsStandIn t = false by simpa using List.all_eq_true.1 hall t hm)⟩)
  (by kernel_rfl)
#print axioms fnExactScriptText_holds
end Go.Proofs.YtolfclbcfddhpaaDoor
