/- FnExactParseAct: the law returns true for every input. No condition beside the card's own (the library's tables and its sentinel read as its text lays them). -/
import Derived.Test.YtminhkfbpiknkaaDoorCards
import Derived.Test.YtminhkfbpiknkaaDoorTie
import Derived.SevenTiedAt
import Derived.LaidMore
import Derived.MakeChecks
import Derived.OpenShut
import Derived.Test.YtminhkfbpiknkaaDoorH12
import Derived.Test.YtminhkfbpiknkaaDoorBdH8x3
import Derived.Test.YtminhkfbpiknkaaDoorO5
import Derived.Test.YtminhkfbpiknkaaDoorO2
namespace Go.Proofs.YtminhkfbpiknkaaDoor
open Go.ChangeShapes Go.WideShapes Go.ChangeAt Go.RowKit Go.Deep
set_option maxHeartbeats 2000000 in
theorem lawParseAct_any (s : ByteArray) (w : World) (hs : s.size ≤ 9223372036854775807) (ht : TabOk w) (he : ErrOk w) :
  Calls Tryd.prog 3 #[.string s] w fun e w' => e = .returned (.bool true) ∧ Below w.heap.size w w' := by
 have HS := Lib.hid (fun W => specParseAct_any s W hs)
 have HI := Lib.hid (fun W ht he => implParseAct_any s W hs ht he)
 generalize prsA s = r at *
 obtain ⟨⟨k, a, b⟩, ok⟩ := r
 go_enter Tryd.func3, Tryd.ntmps3
 by_cases hbig : 1048576 < s.size
 ·have hd : decide ((1048576 : Int) < (s.size : Int)) = true := decide_eq_true (by omega)
  go_wp2_with fail
  go_ret
  exact ⟨rfl, Below.refl _ _⟩
 have hd : decide ((1048576 : Int) < (s.size : Int)) = false := decide_eq_false (by omega)
 go_wp2_with fail
 refine (HS.out w).mono ?_
 rintro e w1 ⟨rfl, hb1⟩
 have ht1 := ht.below hb1
 have he1 := he.below hb1
 have hal : Below w.heap.size w (w1.alloc (.cells #[.int .i64 k, .int .i64 a, .int .i64 b] 23)) := hb1.alloc hb1.size _
 have L : Loc (w1.alloc (.cells #[.int .i64 k, .int .i64 a, .int .i64 b] 23)) w1.heap.size [.int .i64 k, .int .i64 a, .int .i64 b] := Loc.new w1 #[.int .i64 k, .int .i64 a, .int .i64 b] 23
 go_wp2_with fail
 refine (HI.out _ (ht.below hal) (he.below hal)).mono ?_
 rintro e w2 ⟨rfl, hb2⟩
 replace L := L.below hb2
 have hb := bl_trans hal hb2
 have L2 := L.below ((Below.refl _ _).alloc (Nat.le_refl _) _ : Below w2.heap.size w2 (w2.alloc (.cells #[.int .i64 k, .int .i64 a, .int .i64 b] 23)))
 have L3 : Loc (w2.alloc (.cells #[.int .i64 k, .int .i64 a, .int .i64 b] 23)) w2.heap.size [.int .i64 k, .int .i64 a, .int .i64 b] := Loc.new w2 #[.int .i64 k, .int .i64 a, .int .i64 b] 23
 have b0 := (L2 0 _ rfl).1
 have b1 := (L2 1 _ rfl).1
 have b2 := (L2 2 _ rfl).1
 have c0 := (L3 0 _ rfl).1
 have c1 := (L3 1 _ rfl).1
 have c2 := (L3 2 _ rfl).1
 clear HS HI
 go_wp2_with fail
 refine (eqAct_same k a b _).mono ?_
 rintro e w3 ⟨rfl, hb3⟩
 go_wp2_with fail
 go_ret
 exact ⟨rfl, bl_trans (hb.alloc hb.size _) hb3⟩
theorem door_met_fnExactParseAct (os : Os) (args : Array Value) : laidMetH Tryd.prog Rows.fnExactParseActRow.laid ((World.doorLaid Tryd.prog 62 os).forCall (fun _ _ => 0) ⟨#[], args, []⟩).memory :=
 laidMetH_of_parts3 (fuel := 8) (laidMet_of_run' 8 (by kernel_rfl) (by kernel_rfl)) (by kernel_rfl) (by kernel_rfl)
set_option maxRecDepth 100000 in
set_option maxHeartbeats 1000000 in
theorem fnExactParseAct_lifted (os : Os) (started : os.Started) (H : Type) (enc : TypeId × Value → H) :
  ReturnsInHanded {} Tryd.checked os 3 .any (fun w args => (Rows.fnExactParseActSpec.pre enc Tryd.prog Tryd.f3 [] false w args ∧ laidMetH Tryd.prog Rows.fnExactParseActRow.laid w) ∧ sizedMet enc Tryd.prog Tryd.f3 (OpenSpec.ofChange Rows.fnExactParseActSpec) false w args) (Rows.fnExactParseActSpec.post enc Tryd.prog Tryd.f3 false true false false) := by
 refine returnsInHanded_of_change_and (C := Tryd.checked) (X := fun w _ => laidMetH Tryd.prog Rows.fnExactParseActRow.laid w) (fun _ _ _ hh h => h.of_heap hh) tryOwn started (by kernel_rfl) Tryd.func3
  (ChangeSpec.witness_shaped (enc := enc) (C := Tryd.checked) (os := os) (X := fun w _ => laidMetH Tryd.prog Rows.fnExactParseActRow.laid w) false (World.doorLaid Tryd.prog 62 os) #[.string ByteArray.empty] 12 rfl (World.shaped_of_RefB (by kernel_rfl) (by kernel_rfl)) (by kernel_rfl) (by kernel_rfl) (by kernel_rfl) (door_met_fnExactParseAct os _)) ?_
 intro W base args ds gs before hval0 hW _ _ hL _
 have hval : ∀ (j : Nat) t v, Tryd.f3.params[j]? = some t → args[j]? = some v → Value.okWide Tryd.prog W .any base t v := hval0
 have hW' := hW
 obtain ⟨p, q, hA0, hV, rfl, hfz, hnd⟩ := hW
 have hA : DataW.TrodAll enc Tryd.prog W 0 (fun _ => true) true Tryd.f3.params.toList args.toList ds p := hA0
 rw [Tryd.params3] at hA hval
 obtain ⟨v0, vs0, d0, ds0, p0, q0, hargs, rfl, rfl, h0, r0⟩ := trodAll_cons hA
 obtain ⟨rfl, rfl, rfl⟩ := trodAll_nil r0
 obtain rfl : args = #[v0] := by cases args; simp_all
 obtain ⟨rfl, rfl⟩ := trodVars_none hV
 have e0 := h0
 have lt0 : ∀ x ∈ p0, x.block < W.heap.size := by obtain ⟨m, hm⟩ := e0; exact DataW.trod_lt m _ _ _ hm
 have ok0 := hval 0 9 v0 rfl rfl
 rw [MakeChecks.laidMetH_plain _ _ _ (by kernel_rfl)] at hL
 clear hA0 hval0 hval
 obtain ⟨s, rfl, rfl, rfl, hs'⟩ := Go.ChangeMaps.open_string Tryd.underlying9 ok0 h0
 refine (lawParseAct_any s W (by simpa [maxLen] using hs') (tab3 hL) (err5 hL)).mono fun e W' ⟨he, bel⟩ => ?_
 subst he
 exact ⟨_, rfl, _, _, _, [], _, [], hW', trodAll_mk1 (shut_bool Tryd.underlying4 _), (trodAll_cons_mk (Below.trod tryLaid (by kernel_rfl) (of_decide_eq_true (by kernel_rfl)) e0 bel lt0) trodAll_mk0), rfl, bel.frame _, fun h => by cases h⟩
theorem fnExactParseAct_row : Rows.FnExactParseActSaid :=
 OpenClaim.holds_of_wide 3 Tryd.f3 rfl rfl rfl rfl rfl rfl rfl ⟨rfl, rfl, rfl, rfl, rfl⟩ rfl rfl rfl rfl rfl (by kernel_rfl) Tryd.func3 (by kernel_rfl)
  (of_decide_eq_true (by kernel_rfl)) (by unfold Func.isWrapper; first | (rw [if_pos (by decide +kernel)]; kernel_rfl) | (rw [if_neg (by decide +kernel)]; exact ⟨rfl, rfl⟩))
  (fun os started H enc _ => fnExactParseAct_lifted os started H enc)
theorem fnExactParseAct_holds : Rows.FnExactParseActCardSaid :=
 Claim7.holds_tied_plain_at .later [] [.data, .data, .data, .sentinel, .sentinel] true (true, "9462ade242cab3de4d2261d77052e58c28188783a5c3227b06b51d76fe739f83") true
  fnExactParseAct_row (fun _ h => by cases h) (by kernel_rfl) (fun _ h => by cases h) fnExactParseAct_row_tie rfl ⟨rfl, rfl⟩ (by kernel_rfl) rfl
  (fun f fn hf hfn => by
   obtain rfl : f = 3 := Option.some.inj ((show Tryd.prog.funcNamed "loop.example/g03306/laws.FnExactParseAct" = some 3 by kernel_rfl).symm.trans hf) |>.symm
   obtain rfl : fn = Tryd.f3 := (Option.some.inj (Tryd.func3.symm.trans hfn)).symm
   exact ⟨by kernel_rfl, fun j t ht => by
    rw [Tryd.params3] at ht
    have hm : t ∈ [9] := by simpa using Array.mem_of_getElem? ht
    have hall : ([9].all fun u => !Tryd.prog.wantsStandIn u) = true := by kernel_rfl
    exact (show Tryd.prog.wantsStandIn t = false by simpa using List.all_eq_true.1 hall t hm)⟩)
  (by kernel_rfl)
#print axioms fnExactParseAct_holds
end Go.Proofs.YtminhkfbpiknkaaDoor
