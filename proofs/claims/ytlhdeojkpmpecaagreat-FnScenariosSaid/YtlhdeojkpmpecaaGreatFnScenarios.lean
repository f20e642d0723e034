/- FnScenarios: the law returns true for every input. No condition. Written by a program (gen_fs.py). -/
import Derived.OpenShut
import Derived.Test.YtlhdeojkpmpecaaGreatW11
import Derived.Test.YtlhdeojkpmpecaaGreatBdZ5x9
import Derived.Test.YtlhdeojkpmpecaaGreatBdW1x3
import Derived.Test.YtlhdeojkpmpecaaGreatO3
namespace Go.Proofs.YtlhdeojkpmpecaaGreat
open Go.ChangeShapes Go.WideShapes Go.ChangeAt Go.RowKit Go.Deep
set_option maxHeartbeats 8000000 in
set_option maxRecDepth 100000 in
theorem lawFnScenarios_any (A : Option Addr) (c : Nat) (bs : List Int) (w : World) (h : RdL cU8 1 w (.slice A bs.length c) bs) (hby : ∀ x ∈ bs, 0 ≤ x ∧ x ≤ 255) :
    Calls Tryz.prog 7 #[.slice A bs.length c] w fun e w' => e = .returned (.bool true) ∧ Below w.heap.size w w' := by
  have Hby := Lib.hid hby
  clear hby
  have HT : Hid (∀ (n m : Int) (v1 v2 v3 : Value) (cs : List RCross) (pl : List RPl) (ds : List Int) (W : World), RdTheatre W v1 v2 v3 cs pl ds → theatreB n m cs pl ds = true →
      Calls Tryz.prog 36 #[.agg #[.int .i64 n, v1, v2, v3, .int .i64 m]] W fun e w' => e = .returned (.bool true) ∧ Below W.heap.size W w') := by
    intro n m v1 v2 v3 cs pl ds W hr ht
    have := implTheatreOk_any n m v1 v2 v3 cs pl ds W hr
    rw [ht] at this
    exact this
  go_enter Tryz.func7, Tryz.ntmps7
  go_wp2_with (go_at_call 30; refine twoB (big_any _ _ _ _) (fun wb hc hb => ?_) (fun wb hc hb => ?_))
  · go_ret
    exact ⟨rfl, hb⟩
  have hlen : bs.length ≤ 1048576 := by have := hc.out; simp at this; omega
  clear hc
  refine (drawActs_any A c bs wb (h.below hb) Hby.out hlen).mono ?_
  rintro e w1 ⟨n, m, cs, pl, ds, x1, x2, x3, va, acts, rfl, hrt, hra, hth, h13, hacts, hb1⟩
  obtain ⟨⟨A1, n1, rfl⟩, ⟨A2, n2, rfl⟩, ⟨A3, n3, rfl⟩⟩ := hrt.forms
  obtain ⟨A5, n5, rfl, _, _⟩ := hra.form
  have hbw : Below w.heap.size w w1 := bl_trans hb hb1
  have hac := acts_ok (t := ⟨n, m, cs, pl, ds⟩) hth (acts := acts) (by omega)
  have hrun := fun W hr ha => implRunActs_any n m (.slice A1 cs.length n1) (.slice A2 pl.length n2) (.slice A3 ds.length n3) (.slice A5 acts.length n5) cs pl ds acts W hr ha (by have := theatreB_sz hth; omega)
  generalize actsF ⟨n, m, cs, pl, ds⟩ acts = r at hac hrun
  obtain ⟨⟨n', m', cs', pl', ds'⟩, ns⟩ := r
  obtain ⟨hok', hl'⟩ := hac
  have Hok : Hid (theatreB n m cs pl ds = true) := hth
  have Hok' : Hid (theatreB n' m' cs' pl' ds' = true) := hok'
  have Hl : Hid (ns.length = acts.length) := hl'
  have HR := Lib.hid hrun
  have h13' : acts.length ≤ 13 := h13
  clear hth hok' hl' hrun hacts hb hb1 h hlen h13
  go_upto_region 4 with (fail)
  have hal : Below w1.heap.size w1 (w1.alloc (.cells #[.int .i64 n, .slice A1 cs.length n1, .slice A2 pl.length n2, .slice A3 ds.length n3, .int .i64 m] 37)) := (Below.refl _ _).alloc (Nat.le_refl _) _
  have L1 : Loc (w1.alloc (.cells #[.int .i64 n, .slice A1 cs.length n1, .slice A2 pl.length n2, .slice A3 ds.length n3, .int .i64 m] 37)) w1.heap.size [.int .i64 n, .slice A1 cs.length n1, .slice A2 pl.length n2, .slice A3 ds.length n3, .int .i64 m] := Loc.new w1 #[.int .i64 n, .slice A1 cs.length n1, .slice A2 pl.length n2, .slice A3 ds.length n3, .int .i64 m] 37
  obtain ⟨g1, hg1⟩ : ∃ g, w1.heap.size = g := ⟨_, rfl⟩
  rw [hg1] at L1
  replace hrt := hrt.below hal
  replace hra := hra.below hal
  replace hbw := bl_trans hbw hal
  generalize w1.alloc (.cells #[.int .i64 n, .slice A1 cs.length n1, .slice A2 pl.length n2, .slice A3 ds.length n3, .int .i64 m] 37) = W1 at *
  (try rw [hg1])
  clear hg1 hal
  have b0 := (L1 0 _ rfl).1
  have b1 := (L1 1 _ rfl).1
  have b2 := (L1 2 _ rfl).1
  have b3 := (L1 3 _ rfl).1
  have b4 := (L1 4 _ rfl).1
  go_wp2_with fail
  refine (HR.out W1 hrt hra).mono ?_
  rintro e w2 ⟨y1, y2, y3, S, vn, SN, rfl, ow, fr, ol, frn, _, hb2⟩
  have hrt2 := ow.rd
  obtain ⟨⟨B1, k1, rfl⟩, ⟨B2, k2, rfl⟩, ⟨B3, k3, rfl⟩⟩ := hrt2.forms
  obtain ⟨B4, k4, rfl, _, _⟩ := (RdS.of_own ol.1).form
  replace hrt := hrt.below hb2
  replace L1 := L1.below hb2
  replace hbw := bl_trans hbw hb2
  clear b0 b1 b2 b3 b4 ow fr ol frn hb2 hra HR
  rw [Hl.out]
  go_upto_region 5 with (fail)
  have hal : Below w2.heap.size w2 (w2.alloc (.cells #[.int .i64 n', .slice B1 cs'.length k1, .slice B2 pl'.length k2, .slice B3 ds'.length k3, .int .i64 m'] 37)) := (Below.refl _ _).alloc (Nat.le_refl _) _
  have L2 : Loc (w2.alloc (.cells #[.int .i64 n', .slice B1 cs'.length k1, .slice B2 pl'.length k2, .slice B3 ds'.length k3, .int .i64 m'] 37)) w2.heap.size [.int .i64 n', .slice B1 cs'.length k1, .slice B2 pl'.length k2, .slice B3 ds'.length k3, .int .i64 m'] := Loc.new w2 #[.int .i64 n', .slice B1 cs'.length k1, .slice B2 pl'.length k2, .slice B3 ds'.length k3, .int .i64 m'] 37
  obtain ⟨g2, hg2⟩ : ∃ g, w2.heap.size = g := ⟨_, rfl⟩
  rw [hg2] at L2
  replace hrt := hrt.below hal
  replace hrt2 := hrt2.below hal
  replace L1 := L1.below hal
  replace hbw := bl_trans hbw hal
  generalize w2.alloc (.cells #[.int .i64 n', .slice B1 cs'.length k1, .slice B2 pl'.length k2, .slice B3 ds'.length k3, .int .i64 m'] 37) = W2 at *
  (try rw [hg2])
  clear hg2 hal
  have b0 := (L1 0 _ rfl).1
  have b1 := (L1 1 _ rfl).1
  have b2 := (L1 2 _ rfl).1
  have b3 := (L1 3 _ rfl).1
  have b4 := (L1 4 _ rfl).1
  go_wp2_with fail
  refine (HT.out n m _ _ _ cs pl ds W2 hrt Hok.out).mono ?_
  rintro e w3 ⟨rfl, hb3⟩
  replace hrt2 := hrt2.below hb3
  replace L2 := L2.below hb3
  replace hbw := bl_trans hbw hb3
  clear b0 b1 b2 b3 b4 hb3 hrt L1
  have b0 := (L2 0 _ rfl).1
  have b1 := (L2 1 _ rfl).1
  have b2 := (L2 2 _ rfl).1
  have b3 := (L2 3 _ rfl).1
  have b4 := (L2 4 _ rfl).1
  go_wp2_with fail
  refine (HT.out n' m' _ _ _ cs' pl' ds' w3 hrt2 Hok'.out).mono ?_
  rintro e w4 ⟨rfl, hb4⟩
  replace hbw := bl_trans hbw hb4
  clear b0 b1 b2 b3 b4 hb4 hrt2 L2
  go_wp2_with fail
  refine (implSampleTheatre_any w4).mono ?_
  rintro e w5 ⟨z1, z2, z3, S5, rfl, ow5, _, hb5⟩
  have hrt5 := ow5.rd
  obtain ⟨⟨E1, e1, rfl⟩, ⟨E2, e2, rfl⟩, ⟨E3, e3, rfl⟩⟩ := hrt5.forms
  replace hbw := bl_trans hbw hb5
  clear ow5 hb5
  go_wp2_with fail
  refine (HT.out 3 60 _ _ _ [] onePl [] w5 hrt5 samp_ok).mono ?_
  rintro e w6 ⟨rfl, hb6⟩
  replace hbw := bl_trans hbw hb6
  go_wp2_with fail
  go_ret
  exact ⟨rfl, hbw⟩
set_option maxRecDepth 100000 in
set_option maxHeartbeats 1000000 in
theorem fnScenarios_lifted (os : Os) (started : os.Started) (H : Type) (enc : TypeId × Value → H) :
    ReturnsInHanded {} Tryz.checked os 7 .any (Rows.fnScenariosSpec.pre6 enc Tryz.prog Tryz.f7 Rows.fnScenariosRow.domain false) (Rows.fnScenariosSpec.post enc Tryz.prog Tryz.f7 false true false false) := by
  refine returnsInHanded_of_change (C := Tryz.checked) tryOwn started (by kernel_rfl) Tryz.func7
    (ChangeSpec.witness6 (enc := enc) (C := Tryz.checked) false ⟨#[], #[.slice none 0 0], []⟩ 12 (by kernel_rfl) (by kernel_rfl) (by kernel_rfl) (by kernel_rfl)) ?_
  intro W base args ds gs before hval0 hW hcnd _
  have hval : ∀ (j : Nat) t v, Tryz.f7.params[j]? = some t → args[j]? = some v → Value.okWide Tryz.prog W .any base t v := hval0
  have hW' := hW
  obtain ⟨p, q, hA0, hV, rfl, hfz, hnd⟩ := hW
  have hA : DataW.TrodAll enc Tryz.prog W 0 (fun _ => true) true Tryz.f7.params.toList args.toList ds p := hA0
  rw [Tryz.params7] at hA hval
  obtain ⟨v0, vs0, d0, ds0, p0, q0, hargs, rfl, rfl, h0, r0⟩ := trodAll_cons hA
  obtain ⟨rfl, rfl, rfl⟩ := trodAll_nil r0
  obtain rfl : args = #[v0] := by cases args; simp_all
  obtain ⟨rfl, rfl⟩ := trodVars_none hV
  have e0 := h0
  have lt0 : ∀ x ∈ p0, x.block < W.heap.size := by obtain ⟨m, hm⟩ := e0; exact DataW.trod_lt m _ _ _ hm
  have ok0 := hval 0 60 v0 rfl rfl
  clear hA0 hval0 hval
  obtain ⟨xs, hrd, hby⟩ := arg_slice Tryz.underlying60 ok0 h0 (opens_slice (f := cU8) (size := 1) Tryz.underlying60 (by kernel_rfl) (by omega) cU8_len (opens_u8 Tryz.underlying5))
  obtain ⟨A, c, rfl, _⟩ := RdS.form hrd
  refine (lawFnScenarios_any A c xs W hrd hby).mono fun e W' ⟨he, bel⟩ => ?_
  subst he
  exact ⟨_, rfl, _, _, _, [], _, [], hW', trodAll_mk1 (shut_bool Tryz.underlying4 _), (trodAll_cons_mk (Below.trod tryLaid (by kernel_rfl) (of_decide_eq_true (by kernel_rfl)) e0 bel lt0) trodAll_mk0), rfl, bel.frame _, fun h => by cases h⟩
theorem fnScenarios_holds : Rows.FnScenariosSaid :=
  OpenClaim.holds_of_wide 7 Tryz.f7 rfl rfl rfl rfl rfl rfl rfl ⟨rfl, rfl, rfl, rfl, rfl⟩ rfl rfl rfl rfl rfl (by kernel_rfl) Tryz.func7 (by kernel_rfl)
    (of_decide_eq_true (by kernel_rfl)) (by unfold Func.isWrapper; first | (rw [if_pos (by decide +kernel)]; kernel_rfl) | (rw [if_neg (by decide +kernel)]; exact ⟨rfl, rfl⟩))
    (fun os started H enc _ => fnScenarios_lifted os started H enc)
#print axioms fnScenarios_holds
end Go.Proofs.YtlhdeojkpmpecaaGreat
