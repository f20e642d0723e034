/- FnExactRunScript: the law returns true for every input. No condition beside the card's own (the library's tables and its sentinel read as its text lays them). -/
import Derived.Test.YtkbacoadejglkaaGreatDoorCards
import Derived.Test.YtkbacoadejglkaaGreatDoorTie
import Derived.SevenTiedAt
import Derived.LaidMore
import Derived.MakeChecks
import Derived.OpenShut
import Derived.Test.YtkbacoadejglkaaGreatDoorBdH20x2
import Derived.Test.YtkbacoadejglkaaGreatDoorC2
import Derived.Test.YtkbacoadejglkaaGreatDoorO5
import Derived.Test.YtkbacoadejglkaaGreatDoorO6
import Derived.Test.YtkbacoadejglkaaGreatDoorBdO1x2
namespace Go.Proofs.YtkbacoadejglkaaGreatDoor
set_option maxHeartbeats 16000000
set_option maxRecDepth 100000
open Go.ChangeShapes Go.WideShapes Go.ChangeAt Go.RowKit Go.Deep
theorem zy6 (s : ByteArray) : (rsF s).1.length <= 50 := by
 unfold rsF
 split
 ·simp
 ·rename_i l _
  split
  ·have h1 := (zml smpT l).2
   have h2 := znb (zci smpT l).1.n (zci smpT l).1.m (zci smpT l).1.cs (zci smpT l).1.pl (zci smpT l).1.ds
   show (zjv l).length <= 50
   unfold zjv; rw [List.length_append, List.length_map]
   omega
  ·simp
theorem lawRunScript_any (s : ByteArray) (w : World) (hs : s.size <= 9223372036854775807) (ht : zhr w) (he : zog w) (hm : zpq w) :
  Calls Tryz.prog 3 #[.string s] w fun e w' => e = .returned (.bool true) /\ Below w.heap.size w w' := by
 have HS := Lib.hid (fun W => zij s W hs)
 have HI := Lib.hid (fun W ht he hm => zja s W hs ht he hm)
 have hrl := zy6 s; generalize rsF s = r at *
 obtain ⟨res, ok⟩ := r
 dsimp only at hrl HS HI
 go_enter Tryz.func3, Tryz.ntmps3
 by_cases hbig : 1048576 < s.size
 ·have hd : decide ((1048576 : Int) < (s.size : Int)) = true := decide_eq_true (by omega)
  go_wp2_with fail; go_ret; exact ⟨rfl, Below.refl _ _⟩
 have hd : decide ((1048576 : Int) < (s.size : Int)) = false := decide_eq_false (by omega)
 go_wp2_with fail; refine (HS.out w).mono ?_; rintro e w1 ⟨v0, rfl, own0, hb1⟩; obtain ⟨A0, c0, rfl, _, _⟩ := (RdS.of_own own0).form; go_wp2_with fail; refine (HI.out w1 (ht.below hb1) (he.below hb1) (hm.below hb1)).mono ?_; rintro e w2 ⟨vg, rfl, owng, hb2⟩; obtain ⟨Ag, cg, rfl, _, _⟩ := (RdS.of_own owng).form; have h02 := zac own0 hb2; have hbw2 := zab hb1 hb2; have hz1 := hb1.size; go_wp2_with fail; refine (zhw _ _ res w2 (RdS.of_own owng) (RdS.of_own h02)).mono ?_; rintro e w3 ⟨rfl, hb3⟩; have h03 := zac h02 hb3; have hg3 := zac owng hb3; have hbw3 := zab hbw2 hb3; go_wp2_with fail; refine (zkl _ res.length _ 1 w1.heap.size w3 hg3 (by omega) (by omega)).mono ?_
 rintro e w4 ⟨rfl, hg4, hgr4⟩; have hch4 := Chg.of_grown hgr4
 have hap : ∀ b ∈ (Value.slice A0 res.length c0).ownBlock.toList, b ∉ (Value.slice Ag res.length cg).ownBlock.toList := fun b h1 h2 => by
  have q1 := (own0.lt b (by simpa using h1)).2
  have q2 := (owng.lt b (by simpa using h2)).1
  omega
 have h04 := za0 h03 hch4 hap; have hbw4 : Below w.heap.size w w4 := Below.chg hbw3 hch4 hbw3.size (fun b h2 => by have := (owng.lt b (by simpa using h2)).1; omega)
 have hn1 : decide ((1 : Int) + (res.length : Int) < 0) = false := decide_eq_false (by omega)
 have hn2 : ¬ (1 : Int) + (res.length : Int) < 0 := by omega
 clear hap hch4 hgr4 hbw3 hg3 h03 hbw2 h02 owng own0 hb2 hb3; go_wp2_with fail; refine (zf9 _ res.length 1 w4 (RdS.of_own hg4) (by omega) (by omega)).mono ?_
 rintro e w5 ⟨rfl, hb5⟩; have h05 := zac h04 hb5; have hg5 := zac hg4 hb5; have hbw5 := zab hbw4 hb5; clear h04 hg4 hbw4 hb5; go_wp2_with fail; refine (HI.out w5 (ht.below hbw5) (he.below hbw5) (hm.below hbw5)).mono ?_; rintro e w6 ⟨vh, rfl, ownh, hb6⟩; obtain ⟨Ah, ch, rfl, _, _⟩ := (RdS.of_own ownh).form; have h06 := zac h05 hb6; have hg6 := zac hg5 hb6; have hbw6 := zab hbw5 hb6; clear h05 hg5 hbw5 hb6; go_wp2_with fail; refine (zhw _ _ res w6 (RdS.of_own ownh) (RdS.of_own h06)).mono ?_; rintro e w7 ⟨rfl, hb7⟩; have hg7 := zac hg6 hb7; have hbw7 := zab hbw6 hb7; go_wp2_with fail; refine (zf9 _ res.length 1 w7 (RdS.of_own hg7) (by omega) (by omega)).mono ?_
 rintro e w8 ⟨rfl, hb8⟩; go_wp2_with fail; go_ret; exact ⟨rfl, zab hbw7 hb8⟩
theorem fnExactRunScript_lifted (os : Os) (started : os.Started) (H : Type) (enc : TypeId × Value -> H) :
  ReturnsInHanded {} Tryz.checked os 3 .any (fun w args => (Rows.fnExactRunScriptSpec.pre enc Tryz.prog Tryz.f3 [] false w args /\ laidMetH Tryz.prog Rows.fnExactRunScriptRow.laid w) /\ sizedMet enc Tryz.prog Tryz.f3 (OpenSpec.ofChange Rows.fnExactRunScriptSpec) false w args) (Rows.fnExactRunScriptSpec.post enc Tryz.prog Tryz.f3 false true false false) := by
 refine zsr (C := Tryz.checked) (X := fun w _ => laidMetH Tryz.prog Rows.fnExactRunScriptRow.laid w) (fun _ _ _ hh h => h.of_heap hh) zzl started (by kernel_rfl) Tryz.func3
  (ChangeSpec.witness_shaped (enc := enc) (C := Tryz.checked) (os := os) (X := fun w _ => laidMetH Tryz.prog Rows.fnExactRunScriptRow.laid w) false (World.laidAll Tryz.prog os Rows.fnExactRunScriptRow.laid) #[.string ByteArray.empty] 12 (World.laidAll_os _ _ _) (World.shaped_of_ZipB (by kernel_rfl) (by kernel_rfl)) (by kernel_rfl) (by kernel_rfl) (by kernel_rfl) (by rw [MakeChecks.laidMetH_plain _ _ _ (by kernel_rfl)]; exact laidMet_laidAll _ (by kernel_rfl) (by kernel_rfl))) ?_
 intro W base args ds gs before hval0 hW hL hsh; have hval : ∀ (j : Nat) t v, Tryz.f3.params[j]? = some t -> args[j]? = some v -> Value.okWide Tryz.prog W .any base t v := hval0; have hW' := hW; obtain ⟨p, q, hA0, hV, rfl, hfz, hnd⟩ := hW; have hA : DataW.TrodAll enc Tryz.prog W 0 (fun _ => true) true Tryz.f3.params.toList args.toList ds p := hA0
 rw [Tryz.params3] at hA hval; obtain ⟨v0, vs0, d0, ds0, p0, q0, hargs, rfl, rfl, h0, r0⟩ := trodAll_cons hA; obtain ⟨rfl, rfl, rfl⟩ := trodAll_nil r0; obtain rfl : args = #[v0] := by cases args; simp_all
 obtain ⟨rfl, rfl⟩ := trodVars_none hV; have e0 := h0; have lt0 : ∀ x ∈ p0, x.block < W.heap.size := by obtain ⟨m, hm⟩ := e0; exact DataW.trod_lt m _ _ _ hm
 have ok0 := hval 0 9 v0 rfl rfl; rw [MakeChecks.laidMetH_plain _ _ _ (by kernel_rfl)] at hL
 clear hA0 hval0 hval; obtain ⟨s, rfl, rfl, rfl, hs'⟩ := Go.ChangeMaps.open_string Tryz.underlying9 ok0 h0; refine (lawRunScript_any s W (by simpa [maxLen] using hs') (tab3 hL) (err6 hL) (zz4 hsh)).mono fun e W' ⟨he, bel⟩ => ?_
 subst he; exact ⟨_, rfl, _, _, _, [], _, [], hW', trodAll_mk1 (shut_bool Tryz.underlying4 _), (trodAll_cons_mk (Below.trod zyl (by kernel_rfl) (of_decide_eq_true (by kernel_rfl)) e0 bel lt0) trodAll_mk0), rfl, bel.frame _, fun h => by cases h⟩
theorem fnExactRunScript_row : Rows.FnExactRunScriptSaid :=
 OpenClaim.holds_of_wide 3 Tryz.f3 rfl rfl rfl rfl rfl rfl rfl ⟨rfl, rfl, rfl, rfl, rfl⟩ rfl rfl rfl rfl rfl (by kernel_rfl) Tryz.func3 (by kernel_rfl)
  (of_decide_eq_true (by kernel_rfl)) (by unfold Func.isWrapper; first | (rw [if_pos (by decide +kernel)]; kernel_rfl) | (rw [if_neg (by decide +kernel)]; exact ⟨rfl, rfl⟩))
  (fun os started H enc _ => fnExactRunScript_lifted os started H enc)
theorem fnExactRunScript_holds : Rows.FnExactRunScriptCardSaid :=
 Claim7.holds_tied_plain_at .later [] [.data, .data, .data, .data, .sentinel, .sentinel, .pinned] true (true, "0021e54c88780edaf224e463e8c8dd8af170ff7085bc9590061bf8cdb6d8197d") true
  fnExactRunScript_row (fun _ h => by cases h) (by kernel_rfl) (fun _ h => by cases h) fnExactRunScript_row_tie rfl ⟨rfl, rfl⟩ (by kernel_rfl) rfl
  (fun f fn hf hfn => by
   obtain rfl : f = 3 := Option.some.inj ((show Tryz.prog.funcNamed "loop.example/g03306/laws.FnExactRunScript" = some 3 by kernel_rfl).symm.trans hf) |>.symm
   obtain rfl : fn = Tryz.f3 := (Option.some.inj (Tryz.func3.symm.trans hfn)).symm
   exact ⟨by kernel_rfl, fun j t ht => by
    rw [Tryz.params3] at ht; have hm : t ∈ [9] := by simpa using Array.mem_of_getElem? ht
    have hall : ([9].all fun u => !Tryz.prog.wantsStandIn u) = true := by kernel_rfl
    exact (show Tryz.prog.wantsStandIn t = false by simpa using List.all_eq_true.1 hall t hm)⟩)
  (by kernel_rfl)
#print axioms fnExactRunScript_holds
end Go.Proofs.YtkbacoadejglkaaGreatDoor
