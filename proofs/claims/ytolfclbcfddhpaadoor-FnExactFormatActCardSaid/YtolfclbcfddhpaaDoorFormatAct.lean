/- FnExactFormatAct: the law returns true for every input. No condition beside the card's own (the library's tables read as its text lays them). -/
import Derived.Test.YtolfclbcfddhpaaDoorCards
import Derived.Test.YtolfclbcfddhpaaDoorTie
import Derived.SevenTiedAt
import Derived.LaidMore
import Derived.MakeChecks
import Derived.OpenShut
import Derived.Test.YtolfclbcfddhpaaDoorBdH5x2
import Derived.Test.YtolfclbcfddhpaaDoorO4
import Derived.Test.YtolfclbcfddhpaaDoorO2
namespace Go.Proofs.YtolfclbcfddhpaaDoor
open Go.ChangeShapes Go.WideShapes Go.ChangeAt Go.RowKit Go.Deep
set_option maxHeartbeats 2000000 in
theorem lawFormatAct_any (k a b : Int) (w : World) (ht : TabOk w) :
  Calls Tryd.prog 3 #[.agg #[.int .i64 k, .int .i64 a, .int .i64 b]] w fun e w' => e = .returned (.bool true) ∧ Below w.heap.size w w' := by
 have hal : Below w.heap.size w (w.alloc (.cells #[.int .i64 k, .int .i64 a, .int .i64 b] 23)) := (Below.refl _ _).alloc (Nat.le_refl _) _
 have L : Loc (w.alloc (.cells #[.int .i64 k, .int .i64 a, .int .i64 b] 23)) w.heap.size [.int .i64 k, .int .i64 a, .int .i64 b] := Loc.new w #[.int .i64 k, .int .i64 a, .int .i64 b] 23
 have ht1 := ht.below hal
 go_enter Tryd.func3, Tryd.ntmps3
 go_wp2_with fail
 refine (toAct_any _ _ _ _).mono ?_
 rintro e w1 ⟨rfl, hb1⟩
 replace L := L.below hb1
 replace hal := bl_trans hal hb1
 replace ht1 := ht1.below hb1
 go_wp2_with fail
 refine (specFormatAct_any _ _ _ _).mono ?_
 rintro e w2 ⟨rfl, hb2⟩
 replace L := L.below hb2
 replace hal := bl_trans hal hb2
 replace ht1 := ht1.below hb2
 have b0 := (L 0 _ rfl).1
 have b1 := (L 1 _ rfl).1
 have b2 := (L 2 _ rfl).1
 have HI := Lib.hid (fun W hW => implFormatAct_any k a b W hW)
 generalize actS (k, a, b) = s at *
 generalize actB k a b = bb at *
 go_wp2_with fail
 refine (toAct_any _ _ _ _).mono ?_
 rintro e w3 ⟨rfl, hb3⟩
 replace hal := bl_trans hal hb3
 replace ht1 := ht1.below hb3
 clear b0 b1 b2
 go_wp2_with fail
 refine (HI.out w3 ht1).mono ?_
 rintro e w4 ⟨rfl, hb4⟩
 replace hal := bl_trans hal hb4
 clear L HI
 go_wp2_with fail
 go_ret
 exact ⟨rfl, hal⟩
theorem door_met_fnExactFormatAct (os : Os) (args : Array Value) : laidMetH Tryd.prog Rows.fnExactFormatActRow.laid ((World.doorLaid Tryd.prog 62 os).forCall (fun _ _ => 0) ⟨#[], args, []⟩).memory :=
 laidMetH_of_parts3 (fuel := 8) (laidMet_of_run' 8 (by kernel_rfl) (by kernel_rfl)) (by kernel_rfl) (by kernel_rfl)
set_option maxRecDepth 100000 in
set_option maxHeartbeats 1000000 in
theorem fnExactFormatAct_lifted (os : Os) (started : os.Started) (H : Type) (enc : TypeId × Value → H) :
  ReturnsInHanded {} Tryd.checked os 3 .any (fun w args => (Rows.fnExactFormatActSpec.pre enc Tryd.prog Tryd.f3 [] false w args ∧ laidMetH Tryd.prog Rows.fnExactFormatActRow.laid w) ∧ sizedMet enc Tryd.prog Tryd.f3 (OpenSpec.ofChange Rows.fnExactFormatActSpec) false w args) (Rows.fnExactFormatActSpec.post enc Tryd.prog Tryd.f3 false true false false) := by
 refine returnsInHanded_of_change_and (C := Tryd.checked) (X := fun w _ => laidMetH Tryd.prog Rows.fnExactFormatActRow.laid w) (fun _ _ _ hh h => h.of_heap hh) tryOwn started (by kernel_rfl) Tryd.func3
  (ChangeSpec.witness_shaped (enc := enc) (C := Tryd.checked) (os := os) (X := fun w _ => laidMetH Tryd.prog Rows.fnExactFormatActRow.laid w) false (World.doorLaid Tryd.prog 62 os) #[.agg #[.int .i64 0, .int .i64 0, .int .i64 0]] 12 rfl (World.shaped_of_RefB (by kernel_rfl) (by kernel_rfl)) (by kernel_rfl) (by kernel_rfl) (by kernel_rfl) (door_met_fnExactFormatAct os _)) ?_
 intro W base args ds gs before hval0 hW _ _ hL _
 have hval : ∀ (j : Nat) t v, Tryd.f3.params[j]? = some t → args[j]? = some v → Value.okWide Tryd.prog W .any base t v := hval0
 have hW' := hW
 obtain ⟨p, q, hA0, hV, rfl, hfz, hnd⟩ := hW
 have hA : DataW.TrodAll enc Tryd.prog W 0 (fun _ => true) true Tryd.f3.params.toList args.toList ds p := hA0
 rw [Tryd.params3] at hA hval
 obtain ⟨v0, vs0, d0, ds0, p0, q0, hargs, rfl, rfl, h0, r0⟩ := trodAll_cons hA
 obtain ⟨rfl, rfl, rfl⟩ := trodAll_nil r0
 obtain rfl : args = #[v0] := by cases args; simp_all
 obtain ⟨rfl, rfl⟩ := trodVars_none hV
 have e0 := h0
 have lt0 : ∀ x ∈ p0, x.block < W.heap.size := by obtain ⟨m, hm⟩ := e0; exact DataW.trod_lt m _ _ _ hm
 have ok0 := hval 0 23 v0 rfl rfl
 rw [MakeChecks.laidMetH_plain _ _ _ (by kernel_rfl)] at hL
 clear hA0 hval0 hval
 obtain ⟨⟨k, a, b⟩, rfl, _⟩ := arg_struct Tryd.underlying23 ok0 h0 opens_lawsAct
 refine (lawFormatAct_any k a b W (tab3 hL)).mono fun e W' ⟨he, bel⟩ => ?_
 subst he
 exact ⟨_, rfl, _, _, _, [], _, [], hW', trodAll_mk1 (shut_bool Tryd.underlying4 _), (trodAll_cons_mk (Below.trod tryLaid (by kernel_rfl) (of_decide_eq_true (by kernel_rfl)) e0 bel lt0) trodAll_mk0), rfl, bel.frame _, fun h => by cases h⟩
theorem fnExactFormatAct_row : Rows.FnExactFormatActSaid :=
 OpenClaim.holds_of_wide 3 Tryd.f3 rfl rfl rfl rfl rfl rfl rfl ⟨rfl, rfl, rfl, rfl, rfl⟩ rfl rfl rfl rfl rfl (by kernel_rfl) Tryd.func3 (by kernel_rfl)
  (of_decide_eq_true (by kernel_rfl)) (by unfold Func.isWrapper; first | (rw [if_pos (by decide +kernel)]; kernel_rfl) | (rw [if_neg (by decide +kernel)]; exact ⟨rfl, rfl⟩))
  (fun os started H enc _ => fnExactFormatAct_lifted os started H enc)
theorem fnExactFormatAct_holds : Rows.FnExactFormatActCardSaid :=
 Claim7.holds_tied_plain_at .later [] [.data, .data, .data] true (true, "d05df11f4aaa342f6cf5886e46137739f8d05fbec1cb38d5ae26fb51ed252bbd") true
  fnExactFormatAct_row (fun _ h => by cases h) (by kernel_rfl) (fun _ h => by cases h) fnExactFormatAct_row_tie rfl ⟨rfl, rfl⟩ (by kernel_rfl) rfl
  (fun f fn hf hfn => by
   obtain rfl : f = 3 := Option.some.inj ((show Tryd.prog.funcNamed "loop.example/g03306/laws.FnExactFormatAct" = some 3 by kernel_rfl).symm.trans hf) |>.symm
   obtain rfl : fn = Tryd.f3 := (Option.some.inj (Tryd.func3.symm.trans hfn)).symm
   exact ⟨by kernel_rfl, fun j t ht => by
    rw [Tryd.params3] at ht
    have hm : t ∈ [23] := by simpa using Array.mem_of_getElem? ht
    have hall : ([23].all fun u => !Tryd.prog.wantsStandIn u) = true := by kernel_rfl
    exact (show Tryd.prog.wantsStandIn t = false by simpa using List.all_eq_true.1 hall t hm)⟩)
  (by kernel_rfl)
#print axioms fnExactFormatAct_holds
end Go.Proofs.YtolfclbcfddhpaaDoor
