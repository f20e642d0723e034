/- FnExactHasCircle: for every input the program's HasCircle returns what the reference's returns. No condition. Written by a program (exact.py). -/
import Derived.Test.YthponccjbbkhaaaV6
import Derived.Test.YthponccjbbkhaaaM4
import Derived.Test.YthponccjbbkhaaaO2
import Derived.OpenShut
namespace Go.Proofs.Ythponccjbbkhaaa
open Go.ChangeShapes Go.WideShapes Go.ChangeAt Go.RowKit
set_option maxHeartbeats 4000000 in
set_option maxRecDepth 100000 in
theorem lawHasCircle_any (a0 : Value) (vv : List (List Int)) (w : World) (h0 : RdRows w a0 vv) :
    Calls Try.prog 11 #[a0] w fun e w' => e = .returned (.bool true) ∧ Below w.heap.size w w' := by
  go_enter Try.func11, Try.ntmps11
  go_wp2_with fail
  refine (szIntSS_any a0 vv 1048576 _ h0 (by omega)).mono ?_
  rintro e _w ⟨r0, rfl, rfl, hr0, ht0⟩
  have Ht0 := Lib.hid ht0
  clear ht0
  by_cases hneg0 : r0 < 0
  · go_wp2_with fail
    go_ret
    exact ⟨rfl, Below.refl _ _⟩
  have hlen0 : rowsTot vv ≤ 1048576 := by have := Ht0.out (by omega); omega
  go_wp2_with fail
  refine (toIntSS_any a0 vv _ h0 hlen0).mono ?_
  rintro e w1 ⟨s0, Ss0, rfl, os0, fs0, q1⟩
  have b1 : Below w.heap.size w w1 := by first | exact q1 | exact bl_alloc q1 | exact bl_alloc (bl_alloc q1)
  have z1 := b1.size
  have hb : Below w.heap.size w w1 := b1
  go_wp2_with fail
  refine (specHasCircle_any s0 vv _ os0.rd).mono ?_
  rintro e w2 ⟨rfl, q2⟩
  have b2 : Below w1.heap.size w1 w2 := by first | exact q2 | exact bl_alloc q2 | exact bl_alloc (bl_alloc q2)
  have z2 := b2.size
  replace hb : Below w.heap.size w w2 := bl_trans hb b2
  replace os0 := os0.below b2
  go_wp2_with fail
  refine (toIntSS_any a0 vv _ (h0.below hb) hlen0).mono ?_
  rintro e w3 ⟨x0, Sx0, rfl, ox0, fx0, q3⟩
  have b3 : Below w2.heap.size w2 w3 := by first | exact q3 | exact bl_alloc q3 | exact bl_alloc (bl_alloc q3)
  have z3 := b3.size
  replace hb : Below w.heap.size w w3 := bl_trans hb b3
  go_wp2_with fail
  refine (implHasCircle_any x0 vv _ ox0.rd).mono ?_
  rintro e w4 ⟨rfl, q4⟩
  have b4 : Below w3.heap.size w3 w4 := by first | exact q4 | exact bl_alloc q4 | exact bl_alloc (bl_alloc q4)
  have z4 := b4.size
  replace hb : Below w.heap.size w w4 := bl_trans hb b4
  replace ox0 := ox0.below b4
  go_wp2_with fail
  refine (toIntSS_any a0 vv _ (h0.below hb) hlen0).mono ?_
  rintro e w5 ⟨y0, Sy0, rfl, oy0, fy0, q5⟩
  have b5 : Below w4.heap.size w4 w5 := by first | exact q5 | exact bl_alloc q5 | exact bl_alloc (bl_alloc q5)
  have z5 := b5.size
  replace hb : Below w.heap.size w w5 := bl_trans hb b5
  replace ox0 := ox0.below b5
  go_wp2_with fail
  refine (eqIntSS_any x0 y0 vv _ ox0.rd oy0.rd).mono ?_
  rintro e w6 ⟨rfl, q6⟩
  have b6 : Below w5.heap.size w5 w6 := by first | exact q6 | exact bl_alloc q6 | exact bl_alloc (bl_alloc q6)
  have z6 := b6.size
  replace hb : Below w.heap.size w w6 := bl_trans hb b6
  replace ox0 := ox0.below b6
  replace oy0 := oy0.below b6
  go_wp2_with fail
  go_ret
  exact ⟨rfl, hb⟩

set_option maxRecDepth 100000 in
set_option maxHeartbeats 1000000 in
theorem fnExactHasCircle_lifted (os : Os) (started : os.Started) (H : Type) (enc : TypeId × Value → H) :
    ReturnsInHanded {} Try.checked os 11 .any (Rows.fnExactHasCircleSpec.pre6 enc Try.prog Try.f11 Rows.fnExactHasCircleRow.domain false) (Rows.fnExactHasCircleSpec.post enc Try.prog Try.f11 false true false false) := by
  refine returnsInHanded_of_change (C := Try.checked) tryOwn started (by kernel_rfl) Try.func11
    (ChangeSpec.witness6 (enc := enc) (C := Try.checked) false ⟨#[], #[.slice none 0 0], []⟩ 12 (by kernel_rfl) (by kernel_rfl) (by kernel_rfl) (by kernel_rfl)) ?_
  intro W base args ds gs before hval0 hW hcnd _
  have hval : ∀ (j : Nat) t v, Try.f11.params[j]? = some t → args[j]? = some v → Value.okWide Try.prog W .any base t v := hval0
  have hW' := hW
  obtain ⟨p, q, hA0, hV, rfl, hfz, hnd⟩ := hW
  have hA : DataW.TrodAll enc Try.prog W 0 (fun _ => true) true Try.f11.params.toList args.toList ds p := hA0
  rw [Try.params11] at hA hval
  obtain ⟨v0, vs0, d0, ds0, p0, q0, hargs, rfl, rfl, h0, r0⟩ := trodAll_cons hA
  obtain ⟨rfl, rfl, rfl⟩ := trodAll_nil r0
  obtain rfl : args = #[v0] := by cases args; simp_all
  obtain ⟨rfl, rfl⟩ := trodVars_none hV
  have e0 := h0
  have lt0 : ∀ x ∈ p0, x.block < W.heap.size := by obtain ⟨m, hm⟩ := e0; exact DataW.trod_lt m _ _ _ hm
  have ok0 := hval 0 38 v0 rfl rfl
  clear hA0 hval0 hval
  obtain ⟨vv, h0', hq0⟩ := rows_of (arg_slice Try.underlying38 ok0 h0 (opens_slice (size := 1) Try.underlying38 (by kernel_rfl) (by omega) (fun _ => rfl) (opens_slice (size := 1) Try.underlying24 (by kernel_rfl) (by omega) cInt_len (opens_int Try.underlying3))))
  refine (lawHasCircle_any v0 vv W h0').mono fun e W' ⟨he, bel⟩ => ?_
  subst he
  exact ⟨_, rfl, _, _, _, [], _, [], hW', trodAll_mk1 (shut_bool Try.underlying4 _), (trodAll_cons_mk (Below.trod tryLaid (by kernel_rfl) (of_decide_eq_true (by kernel_rfl)) e0 bel lt0) trodAll_mk0), rfl, bel.frame _, fun h => by cases h⟩

theorem fnExactHasCircle_holds : Rows.FnExactHasCircleSaid :=
  OpenClaim.holds_of_wide 11 Try.f11 rfl rfl rfl rfl rfl rfl rfl ⟨rfl, rfl, rfl, rfl, rfl⟩ rfl rfl rfl rfl rfl (by kernel_rfl) Try.func11 (by kernel_rfl)
    (of_decide_eq_true (by kernel_rfl)) (by unfold Func.isWrapper; first | (rw [if_pos (by decide +kernel)]; kernel_rfl) | (rw [if_neg (by decide +kernel)]; exact ⟨rfl, rfl⟩))
    (fun os started H enc _ => fnExactHasCircle_lifted os started H enc)
#print axioms fnExactHasCircle_holds
end Go.Proofs.Ythponccjbbkhaaa
