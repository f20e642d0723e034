/- FnScripts: the law returns true for every input. No condition beside the card's own. Written by a program (gen_fsc.py). -/
import Derived.Test.YtdhmhgjjppeodaaGreatDoorCards
import Derived.Test.YtdhmhgjjppeodaaGreatDoorTie
import Derived.SevenTiedAt
import Derived.LaidMore
import Derived.MakeChecks
import Derived.OpenShut
import Derived.BigQuiet
import Derived.Deep.QuietTactic
import Derived.Deep.DeepCutAuto
import Derived.Test.YtdhmhgjjppeodaaGreatDoorBdZ5x9
import Derived.Test.YtdhmhgjjppeodaaGreatDoorH20
import Derived.Test.YtdhmhgjjppeodaaGreatDoorH21
import Derived.Test.YtdhmhgjjppeodaaGreatDoorO5
import Derived.Test.YtdhmhgjjppeodaaGreatDoorO6
import Derived.Test.YtdhmhgjjppeodaaGreatDoorBdW1x3
import Derived.Test.YtdhmhgjjppeodaaGreatDoorO3
namespace Go.Proofs.YtdhmhgjjppeodaaGreatDoor
open Go.ChangeShapes Go.WideShapes Go.ChangeAt Go.RowKit Go.Deep
set_option maxHeartbeats 2000000 in
theorem sameTexts_same (v v' : Value) (l : List ByteArray) (w : World) (h : RdL cStr 1 w v l) (hq : RdL cStr 1 w v' l) :
  Calls Tryz.prog 25 #[v, v'] w fun e w' => e = .returned (.bool true) ∧ Below w.heap.size w w' := by
 obtain ⟨A, c, rfl, h1, h2⟩ := h.form
 obtain ⟨A', c', rfl, h1', h2'⟩ := hq.form
 go_enter Tryz.func25, Tryz.ntmps25
 go_wp2_with fail
 go_loopw [5] (fun i wr => ∃ k : Nat, k ≤ l.length ∧ i = .int .i64 k ∧ Below w.heap.size w wr) (fun i _ => l.length - (intOf i).toNat)
 case atStart => exact ⟨0, Nat.zero_le _, rfl, by (repeat' (first | exact Below.refl _ _ | refine qS ?_ _ | refine qA ?_ _ | refine qD ?_ | refine qN ?_ _ | refine qT ?_ (by assumption)))⟩
 case round =>
  obtain ⟨k, hk, rfl, hb⟩ := hrel
  have hz := hb.size
  by_cases hlt : k < l.length
  ·obtain ⟨g, off, rfl, hg, hc⟩ := (h.below hb).cell cStr_len (by omega) hlt
   have k0 := hc 0 _ rfl
   obtain ⟨g', off', rfl, hg', hc'⟩ := (hq.below hb).cell cStr_len (by omega) hlt
   have k1 := hc' 0 _ rfl
   simp only [Nat.add_zero, Nat.mul_one] at k0 k1
   clear hc hc'
   generalize l[k] = x at *
   go_wp2_with fail
   go_quiet (fail)
   go_wp2_with fail
   go_roundw
   case rel => exact ⟨k + 1, by omega, by go_num, below_drewN hb _⟩
   case measure => simp [intOf]; omega
  ·go_wp2_with fail
   go_ret
   exact ⟨rfl, by (repeat' (first | exact Below.refl _ _ | refine qS ?_ _ | refine qA ?_ _ | refine qD ?_ | refine qN ?_ _ | refine qT ?_ (by assumption)))⟩
set_option maxHeartbeats 16000000 in
set_option maxRecDepth 100000 in
theorem lawFnScripts_any (A : Option Addr) (c : Nat) (bs : List Int) (w : World) (h : RdL cU8 1 w (.slice A bs.length c) bs) (hby : ∀ x ∈ bs, 0 ≤ x ∧ x ≤ 255) (ht : TabOk w) (he : ErrOk w) (hmx : MaxOk w) :
  Calls Tryz.prog 6 #[.slice A bs.length c] w fun e w' => e = .returned (.bool true) ∧ Below w.heap.size w w' := by
 obtain ⟨i0, hi0, hz0, hz1', hz2⟩ := info_parts infoString
 have Hby := Lib.hid hby
 clear hby
 go_enter Tryz.func6, Tryz.ntmps6
 go_wp2_with (go_at_call 8; refine twoB (big_any _ _ _ _) (fun wb hc hb => ?_) (fun wb hc hb => ?_))
 ·go_ret
  exact ⟨rfl, hb⟩
 have hlen : bs.length ≤ 1048576 := by have := hc.out; simp at this; omega
 clear hc
 refine (drawActs_any A c bs wb (h.below hb) Hby.out hlen).mono ?_
 rintro e w1 ⟨n, m, cs, pl, ds, x1, x2, x3, va, l, rfl, hrt0, hra, hth, h13, hacts, hb1⟩
 obtain ⟨⟨A1, n1, rfl⟩, ⟨A2, n2, rfl⟩, ⟨A3, n3, rfl⟩⟩ := hrt0.forms
 obtain ⟨A5, n5, rfl, _, _⟩ := hra.form
 have hal : Below w1.heap.size w1 (w1.alloc (.cells #[.int .i64 n, .slice A1 cs.length n1, .slice A2 pl.length n2, .slice A3 ds.length n3, .int .i64 m] 30)) := (Below.refl _ _).alloc (Nat.le_refl _) _
 have hbw := bl_trans (bl_trans hb hb1) hal
 replace hra := hra.below hal
 have htw := ht.below hbw
 have hew := he.below hbw
 have hmw := hmx.below hbw
 have hl40 : l.length ≤ 40 := by omega
 have HSC := Lib.hid (script_ok hacts hl40)
 have HRF := Lib.hid (script_acts hacts hl40)
 have hsz := scrS_size l l.length (Nat.le_refl _)
 rw [List.take_length] at hsz
 clear hrt0 hth hlen hb hb1 h hacts ht he hmx
 go_upto_region 4 with (fail)
 generalize w1.alloc (.cells #[.int .i64 n, .slice A1 cs.length n1, .slice A2 pl.length n2, .slice A3 ds.length n3, .int .i64 m] 30) = W1 at *
 clear hal
 have hST := fun W hr hW => implScriptText_any (.slice A5 l.length n5) l W hr hW
 rw [HSC.out.1, HSC.out.2] at hST
 have hRS := fun W hW hE hM => implRunScript_any (scrS l) W (by omega) hW hE hM
 rw [HRF.out] at hRS
 have HST := Lib.hid hST
 have HRS := Lib.hid hRS
 clear hST hRS HSC HRF
 generalize scrS l = sx at *
 dsimp only at HRS
 go_wp2_with fail
 refine (HST.out W1 hra htw).mono ?_
 rintro e w2 ⟨rfl, hb2⟩
 replace hra := hra.below hb2
 replace htw := htw.below hb2
 replace hew := hew.below hb2
 replace hmw := hmw.below hb2
 replace hbw := bl_trans hbw hb2
 clear hb2 HST
 go_wp2_with fail
 refine (HRS.out w2 htw hew hmw).mono ?_
 rintro e wr ⟨vo, rfl, owno, hb3⟩
 have hro : RdL cStr 1 wr vo (rsOut l) := RdS.of_own owno
 obtain ⟨Ao9, co9, rfl, _, _⟩ := hro.form
 replace hra := hra.below hb3
 replace htw := htw.below hb3
 replace hbw := bl_trans hbw hb3
 clear hb3 HRS hew hmw owno
 have hb := hbw
 clear hbw
 go_wp2_with fail
 refine (implSampleTheatre_any wr).mono ?_
 rintro e w3 ⟨x1, x2, x3, S, rfl, ow, fr, hb3⟩
 obtain ⟨⟨A1, n1, rfl⟩, ⟨A2, n2, rfl⟩, ⟨A3, n3, rfl⟩⟩ := ow.rd.forms
 have hrt := ow.rd
 have hRA := fun W hr ha => implRunActs_any 3 60 (.slice A1 ([] : List RCross).length n1) (.slice A2 onePl.length n2) (.slice A3 ([] : List Int).length n3) (.slice A5 l.length n5) [] onePl [] l W hr ha (by decide)
 have HBD := Lib.hid (acts_bd smpT l)
 have HOU : Hid (rsOut l = (actsF smpT l).2.map numS ++ fmtT (actsF smpT l).1.n (actsF smpT l).1.m (actsF smpT l).1.cs (actsF smpT l).1.pl (actsF smpT l).1.ds) := rfl
 have HNL : Hid ((actsF smpT l).2.length ≤ 40) := (actsF_sz smpT l).2
 unfold RetRun at hRA
 rw [show (⟨3, 60, [], onePl, []⟩ : Th) = smpT from rfl] at hRA
 generalize actsF smpT l = r at *
 obtain ⟨⟨n', m', cs', pl', ds'⟩, ns⟩ := r
 have hfl := fmtT_len n' m' cs' pl' ds'
 dsimp only at hRA HBD HOU HNL
 unfold RetTI at hRA
 have HRA := Lib.hid hRA
 have hnl : ns.length ≤ 40 := HNL.out
 replace htw := htw.below hb3
 replace hra := hra.below hb3
 replace hb := bl_trans hb hb3
 replace hro := hro.below hb3
 clear hRA HNL ow fr hb3
 go_wp2_with fail
 refine (HRA.out w3 hrt hra).mono ?_
 rintro e w4 ⟨y1, y2, y3, S4, v4, SN, rfl, ow4, fr4, on4, fn4, hdj, hb4⟩
 have hr4 := ow4.rd
 have hn4 : RdL cInt 1 w4 v4 ns := on4.rd
 obtain ⟨⟨B1, k1, rfl⟩, ⟨B2, k2, rfl⟩, ⟨B3, k3, rfl⟩⟩ := hr4.forms
 obtain ⟨B4, k4, rfl, _, _⟩ := hn4.form
 replace htw := htw.below hb4
 replace hb := bl_trans hb hb4
 replace hro := hro.below hb4
 clear ow4 fr4 on4 fn4 hdj hb4 HRA hrt hra
 have hbX : Below w.heap.size w (w4.alloc (.cells #[.int .i64 n', .slice B1 cs'.length k1, .slice B2 pl'.length k2, .slice B3 ds'.length k3, .int .i64 m'] 30)) := hb.alloc hb.size _
 have hbY : Below w4.heap.size w4 (w4.alloc (.cells #[.int .i64 n', .slice B1 cs'.length k1, .slice B2 pl'.length k2, .slice B3 ds'.length k3, .int .i64 m'] 30)) := (Below.refl _ _).alloc (Nat.le_refl _) _
 have Lt : Loc (w4.alloc (.cells #[.int .i64 n', .slice B1 cs'.length k1, .slice B2 pl'.length k2, .slice B3 ds'.length k3, .int .i64 m'] 30)) w4.heap.size [.int .i64 n', .slice B1 cs'.length k1, .slice B2 pl'.length k2, .slice B3 ds'.length k3, .int .i64 m'] := Loc.new w4 #[.int .i64 n', .slice B1 cs'.length k1, .slice B2 pl'.length k2, .slice B3 ds'.length k3, .int .i64 m'] 30
 replace hr4 := hr4.below hbY
 replace hn4 := hn4.below hbY
 replace htw := htw.below hbY
 replace hro := hro.below hbY
 clear hb hbY
 go_upto_region 7 with (fail)
 obtain ⟨gt, hgt⟩ : ∃ gt, w4.heap.size = gt := ⟨_, rfl⟩
 rw [hgt] at Lt ⊢
 generalize w4.alloc (.cells #[.int .i64 n', .slice B1 cs'.length k1, .slice B2 pl'.length k2, .slice B3 ds'.length k3, .int .i64 m'] 30) = WX at *
 clear hgt
 have hown0 := World.ownsRow_made (size := 1) (e := 9) WX #[] 0 (Nat.le_refl _) (by simp [maxLen]) rfl
 have hb0 : Below WX.heap.size WX (WX.alloc (.cells #[] 9)) := (Below.refl _ _).alloc (Nat.le_refl _) _
 go_wp2_with fail
 go_loopw [11, 12] (fun q i wr => ∃ k : Nat, k ≤ ns.length ∧ i = .int .i64 k ∧ wr.ownsRow WX.heap.size 9 1 q k (((ns.take k).map numS).flatMap cStr) ∧ Below WX.heap.size WX wr) (fun _ i _ => ns.length - (intOf i).toNat)
 case atStart => exact ⟨0, Nat.zero_le _, rfl, hown0, hb0⟩
 case round =>
  obtain ⟨k, hk, rfl, hown, hb⟩ := hrel
  clear hown0 hb0
  have hz := hb.size
  obtain ⟨Ao, co, rfl, _, _⟩ := (RdS.of_own hown).form
  by_cases hlt : k < ns.length
  ·obtain ⟨g, off, rfl, hg, hc⟩ := (hn4.below hb).cell cInt_len (by omega) hlt
   have k0 := hc 0 _ rfl
   simp only [Nat.add_zero, Nat.mul_one] at k0
   clear hc
   have HB := HBD.out ns[k] (List.getElem_mem hlt)
   have HN : Hid (((ns.take (k + 1)).map numS).flatMap cStr = ((ns.take k).map numS).flatMap cStr ++ [.string (numS ns[k])]) := by
    show _ = _
    rw [take_snoc_l ns hlt, List.map_append, List.flatMap_append]; rfl
   generalize ns[k] = x at *
   go_wp2_with fail
   refine (implFormatInt_any x wr (by omega) (by omega) (htw.below hb)).mono ?_
   rintro e w6 ⟨rfl, hb6⟩
   have hown6 := own_below hown hb6
   have hbb6 := bl_trans hb hb6
   have hz6 := hbb6.size
   clear hown hb6 k0 HB
   generalize numS x = t at *
   go_wp2_with (at_builtin; go_must (refine wpList_appendR _ rfl (.tmp 43) (.tmp 49) _ rfl WX.heap.size 9 i0 _ 1 16 Tryz.underlying34 hi0 hz0 hz1' hz2 rfl (by omega) _ k (((ns.take k).map numS).flatMap cStr) rfl (hown6.alloc _) _ 1 [.string t] rfl (rdS_new w6 #[.string t] _ 1 1 rfl (by simp [maxLen])) (by simp [Value.oneCell']) (by simp [maxLen]; omega) (by omega) (by simp; omega) ?_); intro v3 w7 hown7 hgr7)
   have hb7 : Below WX.heap.size WX w7 := (hbb6.alloc hbb6.size _).trans (below_own (hown6.alloc (.cells #[.string t] 9)) hgr7 (by simp; omega))
   go_wp2_with fail
   go_roundw
   case rel => exact ⟨k + 1, by omega, by go_num, by rw [HN.out]; exact hown7, hb7⟩
   case measure => simp [intOf]; omega
  ·obtain rfl : k = ns.length := by omega
   rw [List.take_length] at hown
   replace Lt := Lt.below hb
   replace hr4 := hr4.below hb
   replace htw := htw.below hb
   have t0 := (Lt 0 _ rfl).1
   have t1 := (Lt 1 _ rfl).1
   have t2 := (Lt 2 _ rfl).1
   have t3 := (Lt 3 _ rfl).1
   have t4 := (Lt 4 _ rfl).1
   have hFT := fun W hr hW => implFormatTheatre_any n' m' (.slice B1 cs'.length k1) (.slice B2 pl'.length k2) (.slice B3 ds'.length k3) cs' pl' ds' W hr hW
   generalize fmtT n' m' cs' pl' ds' = F at *
   have HFT := Lib.hid hFT
   clear hFT hn4 HBD
   go_wp2_with fail
   refine (HFT.out wr hr4 htw).mono ?_
   rintro e w6 ⟨vF, rfl, ownF, hb6⟩
   have hrF : RdS w6 1 vF F.length (F.flatMap cStr) := RdS.of_own ownF
   obtain ⟨AF, cF, rfl, _, _⟩ := hrF.form
   have hown6 := own_below hown hb6
   have hbb6 := bl_trans hb hb6
   have hz6 := hbb6.size
   clear hown hb6 ownF HFT t0 t1 t2 t3 t4
   go_wp2_with (at_builtin; go_must (refine wpList_appendR _ rfl (.tmp 51) (.tmp 53) _ rfl WX.heap.size 9 i0 _ 1 16 Tryz.underlying34 hi0 hz0 hz1' hz2 rfl (by omega) _ ns.length ((ns.map numS).flatMap cStr) rfl hown6 _ F.length (F.flatMap cStr) rfl hrF (fun y hy => by rw [flat_str] at hy; obtain ⟨x, _, rfl⟩ := List.mem_map.1 hy; rfl) (by simp [maxLen]; omega) (by omega) (by omega) ?_); intro v3 w7 hown7 hgr7)
   have hb7 : Below WX.heap.size WX w7 := hbb6.trans (below_own hown6 hgr7 (by omega))
   have HFIN : Hid (w7.ownsRow WX.heap.size 9 1 v3 (rsOut l).length ((rsOut l).flatMap cStr)) := by
    show World.ownsRow _ _ _ _ _ _ _
    rw [HOU.out, List.length_append, List.length_map, List.flatMap_append]
    exact hown7
   have hrw : RdL cStr 1 w7 v3 (rsOut l) := RdS.of_own HFIN.out
   have hrq := hro.below hb7
   obtain ⟨A7, c7, rfl, _, _⟩ := hrw.form
   clear hown7
   go_wp2_with (go_at_call 25; refine (sameTexts_same _ _ (rsOut l) w7 hrq hrw).mono ?_; rintro e w8 ⟨rfl, hb8⟩; skip)
   go_ret
   exact ⟨rfl, bl_trans hbX (bl_trans hb7 hb8)⟩
set_option maxRecDepth 100000 in
set_option maxHeartbeats 1000000 in
theorem fnScripts_lifted (os : Os) (started : os.Started) (H : Type) (enc : TypeId × Value → H) :
  ReturnsInHanded {} Tryz.checked os 6 .any (fun w args => (Rows.fnScriptsSpec.pre enc Tryz.prog Tryz.f6 [] false w args ∧ laidMetH Tryz.prog Rows.fnScriptsRow.laid w) ∧ sizedMet enc Tryz.prog Tryz.f6 (OpenSpec.ofChange Rows.fnScriptsSpec) false w args) (Rows.fnScriptsSpec.post enc Tryz.prog Tryz.f6 false true false false) := by
 refine shaped_and (C := Tryz.checked) (X := fun w _ => laidMetH Tryz.prog Rows.fnScriptsRow.laid w) (fun _ _ _ hh h => h.of_heap hh) tryOwn started (by kernel_rfl) Tryz.func6
  (ChangeSpec.witness_shaped (enc := enc) (C := Tryz.checked) (os := os) (X := fun w _ => laidMetH Tryz.prog Rows.fnScriptsRow.laid w) false (World.laidAll Tryz.prog os Rows.fnScriptsRow.laid) #[.slice none 0 0] 12 (World.laidAll_os _ _ _) (World.shaped_of_ZipB (by kernel_rfl) (by kernel_rfl)) (by kernel_rfl) (by kernel_rfl) (by kernel_rfl) (by rw [MakeChecks.laidMetH_plain _ _ _ (by kernel_rfl)]; exact laidMet_laidAll _ (by kernel_rfl) (by kernel_rfl))) ?_
 intro W base args ds gs before hval0 hW hL hsh
 have hval : ∀ (j : Nat) t v, Tryz.f6.params[j]? = some t → args[j]? = some v → Value.okWide Tryz.prog W .any base t v := hval0
 have hW' := hW
 obtain ⟨p, q, hA0, hV, rfl, hfz, hnd⟩ := hW
 have hA : DataW.TrodAll enc Tryz.prog W 0 (fun _ => true) true Tryz.f6.params.toList args.toList ds p := hA0
 rw [Tryz.params6] at hA hval
 obtain ⟨v0, vs0, d0, ds0, p0, q0, hargs, rfl, rfl, h0, r0⟩ := trodAll_cons hA
 obtain ⟨rfl, rfl, rfl⟩ := trodAll_nil r0
 obtain rfl : args = #[v0] := by cases args; simp_all
 obtain ⟨rfl, rfl⟩ := trodVars_none hV
 have e0 := h0
 have lt0 : ∀ x ∈ p0, x.block < W.heap.size := by obtain ⟨m, hm⟩ := e0; exact DataW.trod_lt m _ _ _ hm
 have ok0 := hval 0 22 v0 rfl rfl
 rw [MakeChecks.laidMetH_plain _ _ _ (by kernel_rfl)] at hL
 clear hA0 hval0 hval
 obtain ⟨xs, hrd, hby⟩ := arg_slice Tryz.underlying22 ok0 h0 (opens_slice (f := cU8) (size := 1) Tryz.underlying22 (by kernel_rfl) (by omega) cU8_len (opens_u8 Tryz.underlying5))
 obtain ⟨A, c, rfl, _⟩ := RdS.form hrd
 refine (lawFnScripts_any A c xs W hrd hby (tab3 hL) (err6 hL) (max_ok hsh)).mono fun e W' ⟨he, bel⟩ => ?_
 subst he
 exact ⟨_, rfl, _, _, _, [], _, [], hW', trodAll_mk1 (shut_bool Tryz.underlying4 _), (trodAll_cons_mk (Below.trod tryLaid (by kernel_rfl) (of_decide_eq_true (by kernel_rfl)) e0 bel lt0) trodAll_mk0), rfl, bel.frame _, fun h => by cases h⟩
theorem fnScripts_row : Rows.FnScriptsSaid :=
 OpenClaim.holds_of_wide 6 Tryz.f6 rfl rfl rfl rfl rfl rfl rfl ⟨rfl, rfl, rfl, rfl, rfl⟩ rfl rfl rfl rfl rfl (by kernel_rfl) Tryz.func6 (by kernel_rfl)
  (of_decide_eq_true (by kernel_rfl)) (by unfold Func.isWrapper; first | (rw [if_pos (by decide +kernel)]; kernel_rfl) | (rw [if_neg (by decide +kernel)]; exact ⟨rfl, rfl⟩))
  (fun os started H enc _ => fnScripts_lifted os started H enc)
theorem fnScripts_holds : Rows.FnScriptsCardSaid :=
 Claim7.holds_tied_plain_at .later [] [.data, .data, .data, .data, .sentinel, .sentinel, .pinned] true (true, "9a5d7ccd6d7b1d899c76cef772b28dbce31a863826f4a730b92639ba3a34e789") true
  fnScripts_row (fun _ h => by cases h) (by kernel_rfl) (fun _ h => by cases h) fnScripts_row_tie rfl ⟨rfl, rfl⟩ (by kernel_rfl) rfl
  (fun f fn hf hfn => by
   obtain rfl : f = 6 := Option.some.inj ((show Tryz.prog.funcNamed "loop.example/g03306/laws.FnScripts" = some 6 by kernel_rfl).symm.trans hf) |>.symm
   obtain rfl : fn = Tryz.f6 := (Option.some.inj (Tryz.func6.symm.trans hfn)).symm
   exact ⟨by kernel_rfl, fun j t ht => by
    rw [Tryz.params6] at ht
    have hm : t ∈ [22] := by simpa using Array.mem_of_getElem? ht
    have hall : ([22].all fun u => !Tryz.prog.wantsStandIn u) = true := by kernel_rfl
    exact (show Tryz.prog.wantsStandIn t = false by simpa using List.all_eq_true.1 hall t hm)⟩)
  (by kernel_rfl)
#print axioms fnScripts_holds
end Go.Proofs.YtdhmhgjjppeodaaGreatDoor
