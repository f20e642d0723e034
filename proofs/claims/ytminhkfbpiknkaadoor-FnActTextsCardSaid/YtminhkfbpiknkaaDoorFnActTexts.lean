/- FnActTexts: the law returns true for every input. No condition beside the card's own (the library's tables and its sentinel read as its text lays them). -/
import Derived.Test.YtminhkfbpiknkaaDoorCards
import Derived.Test.YtminhkfbpiknkaaDoorTie
import Derived.SevenTiedAt
import Derived.LaidMore
import Derived.MakeChecks
import Derived.OpenShut
import Derived.Deep.QuietTactic
import Derived.BigQuiet
import Derived.Deep.DeepCutAuto
import Derived.Test.YtminhkfbpiknkaaDoorBdY7x11
import Derived.Test.YtminhkfbpiknkaaDoorBdH8x3
import Derived.Test.YtminhkfbpiknkaaDoorH14
import Derived.Test.YtminhkfbpiknkaaDoorBdH5x3
import Derived.Test.YtminhkfbpiknkaaDoorO5
import Derived.Test.YtminhkfbpiknkaaDoorBdW1x3
import Derived.Test.YtminhkfbpiknkaaDoorO3
namespace Go.Proofs.YtminhkfbpiknkaaDoor
open Go.ChangeShapes Go.WideShapes Go.ChangeAt Go.RowKit Go.Deep
set_option maxHeartbeats 4000000 in
set_option maxRecDepth 100000 in
theorem lawFnActTexts_any (A : Option Addr) (c : Nat) (bs : List Int) (w : World) (h : RdL cU8 1 w (.slice A bs.length c) bs) (hby : ∀ x ∈ bs, 0 ≤ x ∧ x ≤ 255) (ht : TabOk w) (he : ErrOk w) :
  Calls Tryd.prog 4 #[.slice A bs.length c] w fun e w' => e = .returned (.bool true) ∧ Below w.heap.size w w' := by
 have Hby := Lib.hid hby
 clear hby
 go_enter Tryd.func4, Tryd.ntmps4
 go_wp2_with (go_at_call 8; refine twoB (big_any _ _ _ _) (fun wb hc hb => ?_) (fun wb hc hb => ?_))
 ·go_ret
  exact ⟨rfl, hb⟩
 have hlen : bs.length ≤ 1048576 := by have := hc.out; simp at this; omega
 have Hlen := Lib.hid hlen
 clear hc
 refine (drawActs_any A c bs wb (h.below hb) Hby.out hlen).mono ?_
 rintro e w1 ⟨n, m, cs, pl, ds, x1, x2, x3, va, acts, rfl, hrt, hra, hth, h13, hacts, hb1⟩
 obtain ⟨⟨A1, n1, rfl⟩, ⟨A2, n2, rfl⟩, ⟨A3, n3, rfl⟩⟩ := hrt.forms
 obtain ⟨A5, n5, rfl, _, _⟩ := hra.form
 have hal : Below w1.heap.size w1 (w1.alloc (.cells #[.int .i64 n, .slice A1 cs.length n1, .slice A2 pl.length n2, .slice A3 ds.length n3, .int .i64 m] 36)) := (Below.refl _ _).alloc (Nat.le_refl _) _
 have hbw := bl_trans (bl_trans hb hb1) hal
 have hra2 := hra.below hal
 have ht1 := ht.below hbw
 have he1 := he.below hbw
 have Hacts := Lib.hid hacts
 clear hrt hth hlen hb hb1 h hacts hra
 go_upto_region 4 with (fail)
 generalize w1.alloc (.cells #[.int .i64 n, .slice A1 cs.length n1, .slice A2 pl.length n2, .slice A3 ds.length n3, .int .i64 m] 36) = W1 at *
 clear hal
 go_wp2_with fail
 go_loopw [5] (fun i wr => ∃ k : Nat, k ≤ acts.length ∧ i = .int .i64 k ∧ Below W1.heap.size W1 wr) (fun i _ => acts.length - (intOf i).toNat)
 case atStart => exact ⟨0, Nat.zero_le _, rfl, Below.refl _ _⟩
 case round =>
  obtain ⟨k, hk, rfl, hb2⟩ := hrel
  by_cases hlt : k < acts.length
  ·obtain ⟨g, off, rfl, hg, hc⟩ := (hra2.below hb2).cell cAct_len (by omega) hlt
   have hrow := hra2.below hb2
   have k0 := hc 0 _ rfl
   have k1 := hc 1 _ rfl
   have k2 := hc 2 _ rfl
   simp only [Nat.add_zero] at k0 k1 k2
   have ha := Hacts.out acts[k] (List.getElem_mem hlt)
   clear hc
   generalize acts[k] = t at *
   obtain ⟨y0, y1, y2⟩ := t
   dsimp only at k0 k1 k2 ha
   have hz := actS_size (k := y0) (a := y1) (b := y2)
   have hF := Lib.hid (fun W hW => implFormatAct_any y0 y1 y2 W hW)
   have hps : (padS (actS (y0, y1, y2))).size ≤ 9223372036854775807 := by
    unfold padS
    rw [ByteArray.size_append, ByteArray.size_append]
    show 2 + _ + 1 ≤ _
    omega
   have hP := Lib.hid (fun W hW hE => implParseAct_any (padS (actS (y0, y1, y2))) W hps hW hE)
   rw [pad_read (t := (y0, y1, y2)) ha hz] at hP
   rw [ha] at hF
   unfold padS at hP
   have hn1 : ((⟨#[32, 32]⟩ : ByteArray) ++ actS (y0, y1, y2)).size = 2 + (actS (y0, y1, y2)).size := by rw [ByteArray.size_append]; rfl
   clear hps
   generalize actS (y0, y1, y2) = s at *
   have hz1 : ¬ 9223372036854775807 < 2 + s.size := by omega
   have hz2 : ¬ 9223372036854775807 < ((⟨#[32, 32]⟩ : ByteArray) ++ s).size + 1 := by omega
   clear hn1 ha
   go_wp2_with fail
   refine (hF.out wr (ht1.below hb2)).mono ?_
   rintro e w2 ⟨rfl, hb3⟩
   have hb4 := bl_trans hb2 hb3
   replace k0 := carry hb3 k0
   replace k1 := carry hb3 k1
   replace k2 := carry hb3 k2
   clear hF hb3
   go_wp2_with fail
   refine (hP.out w2 (ht1.below hb4) (he1.below hb4)).mono ?_
   rintro e w3 ⟨rfl, hb5⟩
   have hb6 := bl_trans hb4 hb5
   replace k0 := carry hb5 k0
   replace k1 := carry hb5 k1
   replace k2 := carry hb5 k2
   have hbX : Below W1.heap.size W1 (w3.alloc (.cells #[.int .i64 y0, .int .i64 y1, .int .i64 y2] 23)) := hb6.alloc hb6.size _
   have LX : Loc (w3.alloc (.cells #[.int .i64 y0, .int .i64 y1, .int .i64 y2] 23)) w3.heap.size [.int .i64 y0, .int .i64 y1, .int .i64 y2] := Loc.new w3 #[.int .i64 y0, .int .i64 y1, .int .i64 y2] 23
   have x0 := (LX 0 _ rfl).1
   have x1 := (LX 1 _ rfl).1
   have x2 := (LX 2 _ rfl).1
   replace k0 := carry ((Below.refl _ _).alloc (Nat.le_refl _) _ : Below w3.heap.size w3 (w3.alloc (.cells #[.int .i64 y0, .int .i64 y1, .int .i64 y2] 23))) k0
   replace k1 := carry ((Below.refl _ _).alloc (Nat.le_refl _) _ : Below w3.heap.size w3 (w3.alloc (.cells #[.int .i64 y0, .int .i64 y1, .int .i64 y2] 23))) k1
   replace k2 := carry ((Below.refl _ _).alloc (Nat.le_refl _) _ : Below w3.heap.size w3 (w3.alloc (.cells #[.int .i64 y0, .int .i64 y1, .int .i64 y2] 23))) k2
   clear hP hb5 LX
   go_upto_region 9 with (fail)
   generalize w3.alloc (.cells #[.int .i64 y0, .int .i64 y1, .int .i64 y2] 23) = W3 at *
   go_quiet (fail)
   go_wp2_with fail
   go_roundw
   case rel => exact ⟨k + 1, by omega, by go_num, below_drewN hbX _⟩
   case measure => simp [intOf]; omega
  ·go_wp2_with fail
   go_ret
   exact ⟨rfl, bl_trans hbw hb2⟩
theorem door_met_fnActTexts (os : Os) (args : Array Value) : laidMetH Tryd.prog Rows.fnActTextsRow.laid ((World.doorLaid Tryd.prog 62 os).forCall (fun _ _ => 0) ⟨#[], args, []⟩).memory :=
 laidMetH_of_parts3 (fuel := 8) (laidMet_of_run' 8 (by kernel_rfl) (by kernel_rfl)) (by kernel_rfl) (by kernel_rfl)
set_option maxRecDepth 100000 in
set_option maxHeartbeats 1000000 in
theorem fnActTexts_lifted (os : Os) (started : os.Started) (H : Type) (enc : TypeId × Value → H) :
  ReturnsInHanded {} Tryd.checked os 4 .any (fun w args => (Rows.fnActTextsSpec.pre enc Tryd.prog Tryd.f4 [] false w args ∧ laidMetH Tryd.prog Rows.fnActTextsRow.laid w) ∧ sizedMet enc Tryd.prog Tryd.f4 (OpenSpec.ofChange Rows.fnActTextsSpec) false w args) (Rows.fnActTextsSpec.post enc Tryd.prog Tryd.f4 false true false false) := by
 refine returnsInHanded_of_change_and (C := Tryd.checked) (X := fun w _ => laidMetH Tryd.prog Rows.fnActTextsRow.laid w) (fun _ _ _ hh h => h.of_heap hh) tryOwn started (by kernel_rfl) Tryd.func4
  (ChangeSpec.witness_shaped (enc := enc) (C := Tryd.checked) (os := os) (X := fun w _ => laidMetH Tryd.prog Rows.fnActTextsRow.laid w) false (World.doorLaid Tryd.prog 62 os) #[.slice none 0 0] 12 rfl (World.shaped_of_RefB (by kernel_rfl) (by kernel_rfl)) (by kernel_rfl) (by kernel_rfl) (by kernel_rfl) (door_met_fnActTexts os _)) ?_
 intro W base args ds gs before hval0 hW _ _ hL _
 have hval : ∀ (j : Nat) t v, Tryd.f4.params[j]? = some t → args[j]? = some v → Value.okWide Tryd.prog W .any base t v := hval0
 have hW' := hW
 obtain ⟨p, q, hA0, hV, rfl, hfz, hnd⟩ := hW
 have hA : DataW.TrodAll enc Tryd.prog W 0 (fun _ => true) true Tryd.f4.params.toList args.toList ds p := hA0
 rw [Tryd.params4] at hA hval
 obtain ⟨v0, vs0, d0, ds0, p0, q0, hargs, rfl, rfl, h0, r0⟩ := trodAll_cons hA
 obtain ⟨rfl, rfl, rfl⟩ := trodAll_nil r0
 obtain rfl : args = #[v0] := by cases args; simp_all
 obtain ⟨rfl, rfl⟩ := trodVars_none hV
 have e0 := h0
 have lt0 : ∀ x ∈ p0, x.block < W.heap.size := by obtain ⟨m, hm⟩ := e0; exact DataW.trod_lt m _ _ _ hm
 have ok0 := hval 0 28 v0 rfl rfl
 rw [MakeChecks.laidMetH_plain _ _ _ (by kernel_rfl)] at hL
 clear hA0 hval0 hval
 obtain ⟨xs, hrd, hby⟩ := arg_slice Tryd.underlying28 ok0 h0 (opens_slice (f := cU8) (size := 1) Tryd.underlying28 (by kernel_rfl) (by omega) cU8_len (opens_u8 Tryd.underlying5))
 obtain ⟨A, c, rfl, _⟩ := RdS.form hrd
 refine (lawFnActTexts_any A c xs W hrd hby (tab3 hL) (err5 hL)).mono fun e W' ⟨he, bel⟩ => ?_
 subst he
 exact ⟨_, rfl, _, _, _, [], _, [], hW', trodAll_mk1 (shut_bool Tryd.underlying4 _), (trodAll_cons_mk (Below.trod tryLaid (by kernel_rfl) (of_decide_eq_true (by kernel_rfl)) e0 bel lt0) trodAll_mk0), rfl, bel.frame _, fun h => by cases h⟩
theorem fnActTexts_row : Rows.FnActTextsSaid :=
 OpenClaim.holds_of_wide 4 Tryd.f4 rfl rfl rfl rfl rfl rfl rfl ⟨rfl, rfl, rfl, rfl, rfl⟩ rfl rfl rfl rfl rfl (by kernel_rfl) Tryd.func4 (by kernel_rfl)
  (of_decide_eq_true (by kernel_rfl)) (by unfold Func.isWrapper; first | (rw [if_pos (by decide +kernel)]; kernel_rfl) | (rw [if_neg (by decide +kernel)]; exact ⟨rfl, rfl⟩))
  (fun os started H enc _ => fnActTexts_lifted os started H enc)
theorem fnActTexts_holds : Rows.FnActTextsCardSaid :=
 Claim7.holds_tied_plain_at .later [] [.data, .data, .data, .sentinel, .sentinel] true (true, "9462ade242cab3de4d2261d77052e58c28188783a5c3227b06b51d76fe739f83") true
  fnActTexts_row (fun _ h => by cases h) (by kernel_rfl) (fun _ h => by cases h) fnActTexts_row_tie rfl ⟨rfl, rfl⟩ (by kernel_rfl) rfl
  (fun f fn hf hfn => by
   obtain rfl : f = 4 := Option.some.inj ((show Tryd.prog.funcNamed "loop.example/g03306/laws.FnActTexts" = some 4 by kernel_rfl).symm.trans hf) |>.symm
   obtain rfl : fn = Tryd.f4 := (Option.some.inj (Tryd.func4.symm.trans hfn)).symm
   exact ⟨by kernel_rfl, fun j t ht => by
    rw [Tryd.params4] at ht
    have hm : t ∈ [28] := by simpa using Array.mem_of_getElem? ht
    have hall : ([28].all fun u => !Tryd.prog.wantsStandIn u) = true := by kernel_rfl
    exact (show Tryd.prog.wantsStandIn t = false by simpa using List.all_eq_true.1 hall t hm)⟩)
  (by kernel_rfl)
#print axioms fnActTexts_holds
end Go.Proofs.YtminhkfbpiknkaaDoor
