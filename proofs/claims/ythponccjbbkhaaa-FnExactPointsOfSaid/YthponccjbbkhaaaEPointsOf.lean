/- FnExactPointsOf: for every input the program's PointsOf returns what the reference's returns. No condition. Written by a program (exact.py). -/
import Derived.Test.YthponccjbbkhaaaV4
import Derived.Test.YthponccjbbkhaaaI8
import Derived.Test.YthponccjbbkhaaaM4
import Derived.Test.YthponccjbbkhaaaO2
import Derived.OpenShut
namespace Go.Proofs.Ythponccjbbkhaaa
open Go.ChangeShapes Go.WideShapes Go.ChangeAt Go.RowKit
set_option maxHeartbeats 4000000 in
set_option maxRecDepth 100000 in
theorem lawPointsOf_any (a0 : Value) (vv : List (List Int)) (w : World) (h0 : RdRows w a0 vv) :
    Calls Try.prog 6 #[a0] w fun e w' => e = .returned (.bool true) ∧ Below w.heap.size w w' := by
  go_enter Try.func6, Try.ntmps6
  go_wp2_with fail
  refine (szIntSS_any a0 vv 1048576 _ h0 (by omega)).mono ?_
  rintro e _w ⟨r0, rfl, rfl, hr0, ht0⟩
  have Ht0 := Lib.hid ht0
  clear ht0
  by_cases hneg0 : r0 < 0
  · go_wp2_with fail
    go_ret
    exact ⟨rfl, Below.refl _ _⟩
  have hlen0 : rowsTot vv ≤ 1048576 := by have := Ht0.out (by omega); omega
  go_wp2_with fail
  refine (toIntSS_any a0 vv _ h0 hlen0).mono ?_
  rintro e w1 ⟨s0, Ss0, rfl, os0, fs0, q1⟩
  have b1 : Below w.heap.size w w1 := by first | exact q1 | exact bl_alloc q1 | exact bl_alloc (bl_alloc q1)
  have z1 := b1.size
  have hb : Below w.heap.size w w1 := b1
  go_wp2_with fail
  refine (specPointsOf_any s0 vv _ os0.rd).mono ?_
  rintro e w2 ⟨w0, rfl, ownw0, q2⟩
  have ow0 : OwL 3 cInt 1 w2 (w0.ownBlock.toList) w0 (ptsF vv) := OwL.mk_ ownw0
  have fw0 := fresh_of ownw0
  clear ownw0
  have b2 : Below w1.heap.size w1 w2 := by first | exact q2 | exact bl_alloc q2 | exact bl_alloc (bl_alloc q2)
  have z2 := b2.size
  replace hb : Below w.heap.size w w2 := bl_trans hb b2
  replace os0 := os0.below b2
  go_wp2_with fail
  refine (toIntSS_any a0 vv _ (h0.below hb) hlen0).mono ?_
  rintro e w3 ⟨x0, Sx0, rfl, ox0, fx0, q3⟩
  have b3 : Below w2.heap.size w2 w3 := by first | exact q3 | exact bl_alloc q3 | exact bl_alloc (bl_alloc q3)
  have z3 := b3.size
  replace hb : Below w.heap.size w w3 := bl_trans hb b3
  replace ow0 := ow0.below b3
  go_wp2_with fail
  refine (implPointsOf_any x0 vv _ ox0.rd).mono ?_
  rintro e w4 ⟨g0, rfl, owng0, q4⟩
  have og0 : OwL 3 cInt 1 w4 (g0.ownBlock.toList) g0 (ptsF vv) := OwL.mk_ owng0
  have fg0 := fresh_of owng0
  clear owng0
  have b4 : Below w3.heap.size w3 w4 := by first | exact q4 | exact bl_alloc q4 | exact bl_alloc (bl_alloc q4)
  have z4 := b4.size
  replace hb : Below w.heap.size w w4 := bl_trans hb b4
  replace ow0 := ow0.below b4
  replace ox0 := ox0.below b4
  go_wp2_with fail
  refine (eqIntS_any g0 w0 (ptsF vv) _ og0.rd ow0.rd).mono ?_
  rintro e w5 ⟨rfl, q5⟩
  have b5 : Below w4.heap.size w4 w5 := by first | exact q5 | exact bl_alloc q5 | exact bl_alloc (bl_alloc q5)
  have z5 := b5.size
  replace hb : Below w.heap.size w w5 := bl_trans hb b5
  replace ow0 := ow0.below b5
  replace ox0 := ox0.below b5
  replace og0 := og0.below b5
  go_wp2_with fail
  refine (toIntSS_any a0 vv _ (h0.below hb) hlen0).mono ?_
  rintro e w6 ⟨y0, Sy0, rfl, oy0, fy0, q6⟩
  have b6 : Below w5.heap.size w5 w6 := by first | exact q6 | exact bl_alloc q6 | exact bl_alloc (bl_alloc q6)
  have z6 := b6.size
  replace hb : Below w.heap.size w w6 := bl_trans hb b6
  replace ow0 := ow0.below b6
  replace ox0 := ox0.below b6
  replace og0 := og0.below b6
  go_wp2_with fail
  refine (eqIntSS_any x0 y0 vv _ ox0.rd oy0.rd).mono ?_
  rintro e w7 ⟨rfl, q7⟩
  have b7 : Below w6.heap.size w6 w7 := by first | exact q7 | exact bl_alloc q7 | exact bl_alloc (bl_alloc q7)
  have z7 := b7.size
  replace hb : Below w.heap.size w w7 := bl_trans hb b7
  replace ow0 := ow0.below b7
  replace ox0 := ox0.below b7
  replace og0 := og0.below b7
  replace oy0 := oy0.below b7
  go_wp2_with fail
  refine (markIntSS_any x0 vv 1 _ _ ox0 fx0.1 (by omega) (by omega)).mono ?_
  rintro e w8 ⟨rfl, q8⟩
  have b8 : Chg Sx0 w7 w8 := by first | exact q8 | exact chg_alloc q8
  have z8 := b8.size
  replace hb : Below w.heap.size w w8 := Below.chg hb b8 (by omega) (fun b hb => by have := fx0.2 b hb; omega)
  replace ow0 := ow0.chg b8 (fresh_disj fw0 fx0 (by omega))
  replace og0 := og0.chg b8 (fresh_disj fg0 fx0 (by omega))
  go_wp2_with fail
  refine (eqIntS_any g0 w0 (ptsF vv) _ og0.rd ow0.rd).mono ?_
  rintro e w9 ⟨rfl, q9⟩
  have b9 : Below w8.heap.size w8 w9 := by first | exact q9 | exact bl_alloc q9 | exact bl_alloc (bl_alloc q9)
  have z9 := b9.size
  replace hb : Below w.heap.size w w9 := bl_trans hb b9
  replace ow0 := ow0.below b9
  replace og0 := og0.below b9
  have hn0 : (ptsF vv).length ≤ 16777216 := by have := ptsF_len vv; omega
  go_wp2_with fail
  refine (markIntS_any g0 (ptsF vv).length _ 1 0 _ og0.1 (by omega) hn0).mono ?_
  rintro e w10 ⟨rfl, owng0, q10⟩
  replace q10 := Chg.of_grown q10
  have mg0 : MkL 3 mkInt 1 w10 (g0.ownBlock.toList) g0 (ptsF vv).length 1 := ⟨own_mono owng0 (Nat.zero_le _), rfl⟩
  clear owng0
  have b10 : Chg g0.ownBlock.toList w9 w10 := by first | exact q10 | exact chg_alloc q10
  have z10 := b10.size
  replace hb : Below w.heap.size w w10 := Below.chg hb b10 (by omega) (fun b hb => by have := fg0.2 b hb; omega)
  replace ow0 := ow0.chg b10 (fresh_disj fw0 fg0 (by omega))
  go_wp2_with fail
  refine (heldIntS_any g0 (ptsF vv).length 1 _ mg0.rd (by omega) hn0).mono ?_
  rintro e w11 ⟨rfl, q11⟩
  replace q11 := eq_below q11
  have b11 : Below w10.heap.size w10 w11 := by first | exact q11 | exact bl_alloc q11 | exact bl_alloc (bl_alloc q11)
  have z11 := b11.size
  replace hb : Below w.heap.size w w11 := bl_trans hb b11
  replace ow0 := ow0.below b11
  replace mg0 := mg0.below b11
  go_wp2_with fail
  refine (toIntSS_any a0 vv _ (h0.below hb) hlen0).mono ?_
  rintro e w12 ⟨u0, Su0, rfl, ou0, fu0, q12⟩
  have b12 : Below w11.heap.size w11 w12 := by first | exact q12 | exact bl_alloc q12 | exact bl_alloc (bl_alloc q12)
  have z12 := b12.size
  replace hb : Below w.heap.size w w12 := bl_trans hb b12
  replace ow0 := ow0.below b12
  replace mg0 := mg0.below b12
  go_wp2_with fail
  refine (implPointsOf_any u0 vv _ ou0.rd).mono ?_
  rintro e w13 ⟨h0, rfl, ownh0, q13⟩
  have oh0 : OwL 3 cInt 1 w13 (h0.ownBlock.toList) h0 (ptsF vv) := OwL.mk_ ownh0
  have fh0 := fresh_of ownh0
  clear ownh0
  have b13 : Below w12.heap.size w12 w13 := by first | exact q13 | exact bl_alloc q13 | exact bl_alloc (bl_alloc q13)
  have z13 := b13.size
  replace hb : Below w.heap.size w w13 := bl_trans hb b13
  replace ow0 := ow0.below b13
  replace mg0 := mg0.below b13
  replace ou0 := ou0.below b13
  go_wp2_with fail
  refine (eqIntS_any h0 w0 (ptsF vv) _ oh0.rd ow0.rd).mono ?_
  rintro e w14 ⟨rfl, q14⟩
  have b14 : Below w13.heap.size w13 w14 := by first | exact q14 | exact bl_alloc q14 | exact bl_alloc (bl_alloc q14)
  have z14 := b14.size
  replace hb : Below w.heap.size w w14 := bl_trans hb b14
  replace ow0 := ow0.below b14
  replace mg0 := mg0.below b14
  replace oh0 := oh0.below b14
  go_wp2_with fail
  refine (heldIntS_any g0 (ptsF vv).length 1 _ mg0.rd (by omega) hn0).mono ?_
  rintro e w15 ⟨rfl, q15⟩
  replace q15 := eq_below q15
  have b15 : Below w14.heap.size w14 w15 := by first | exact q15 | exact bl_alloc q15 | exact bl_alloc (bl_alloc q15)
  have z15 := b15.size
  replace hb : Below w.heap.size w w15 := bl_trans hb b15
  replace ow0 := ow0.below b15
  replace mg0 := mg0.below b15
  replace oh0 := oh0.below b15
  go_wp2_with fail
  go_ret
  exact ⟨rfl, hb⟩

set_option maxRecDepth 100000 in
set_option maxHeartbeats 1000000 in
theorem fnExactPointsOf_lifted (os : Os) (started : os.Started) (H : Type) (enc : TypeId × Value → H) :
    ReturnsInHanded {} Try.checked os 6 .any (Rows.fnExactPointsOfSpec.pre6 enc Try.prog Try.f6 Rows.fnExactPointsOfRow.domain false) (Rows.fnExactPointsOfSpec.post enc Try.prog Try.f6 false true false false) := by
  refine returnsInHanded_of_change (C := Try.checked) tryOwn started (by kernel_rfl) Try.func6
    (ChangeSpec.witness6 (enc := enc) (C := Try.checked) false ⟨#[], #[.slice none 0 0], []⟩ 12 (by kernel_rfl) (by kernel_rfl) (by kernel_rfl) (by kernel_rfl)) ?_
  intro W base args ds gs before hval0 hW hcnd _
  have hval : ∀ (j : Nat) t v, Try.f6.params[j]? = some t → args[j]? = some v → Value.okWide Try.prog W .any base t v := hval0
  have hW' := hW
  obtain ⟨p, q, hA0, hV, rfl, hfz, hnd⟩ := hW
  have hA : DataW.TrodAll enc Try.prog W 0 (fun _ => true) true Try.f6.params.toList args.toList ds p := hA0
  rw [Try.params6] at hA hval
  obtain ⟨v0, vs0, d0, ds0, p0, q0, hargs, rfl, rfl, h0, r0⟩ := trodAll_cons hA
  obtain ⟨rfl, rfl, rfl⟩ := trodAll_nil r0
  obtain rfl : args = #[v0] := by cases args; simp_all
  obtain ⟨rfl, rfl⟩ := trodVars_none hV
  have e0 := h0
  have lt0 : ∀ x ∈ p0, x.block < W.heap.size := by obtain ⟨m, hm⟩ := e0; exact DataW.trod_lt m _ _ _ hm
  have ok0 := hval 0 38 v0 rfl rfl
  clear hA0 hval0 hval
  obtain ⟨vv, h0', hq0⟩ := rows_of (arg_slice Try.underlying38 ok0 h0 (opens_slice (size := 1) Try.underlying38 (by kernel_rfl) (by omega) (fun _ => rfl) (opens_slice (size := 1) Try.underlying24 (by kernel_rfl) (by omega) cInt_len (opens_int Try.underlying3))))
  refine (lawPointsOf_any v0 vv W h0').mono fun e W' ⟨he, bel⟩ => ?_
  subst he
  exact ⟨_, rfl, _, _, _, [], _, [], hW', trodAll_mk1 (shut_bool Try.underlying4 _), (trodAll_cons_mk (Below.trod tryLaid (by kernel_rfl) (of_decide_eq_true (by kernel_rfl)) e0 bel lt0) trodAll_mk0), rfl, bel.frame _, fun h => by cases h⟩

theorem fnExactPointsOf_holds : Rows.FnExactPointsOfSaid :=
  OpenClaim.holds_of_wide 6 Try.f6 rfl rfl rfl rfl rfl rfl rfl ⟨rfl, rfl, rfl, rfl, rfl⟩ rfl rfl rfl rfl rfl (by kernel_rfl) Try.func6 (by kernel_rfl)
    (of_decide_eq_true (by kernel_rfl)) (by unfold Func.isWrapper; first | (rw [if_pos (by decide +kernel)]; kernel_rfl) | (rw [if_neg (by decide +kernel)]; exact ⟨rfl, rfl⟩))
    (fun os started H enc _ => fnExactPointsOf_lifted os started H enc)
#print axioms fnExactPointsOf_holds
end Go.Proofs.Ythponccjbbkhaaa
