/- FnExactLeastWidth: for every input the program's LeastWidth returns what the reference's returns. No condition. Written by a program (exact.py). -/
import Derived.Test.YtghjjaijmlkbdaaD3
import Derived.Test.YtghjjaijmlkbdaaM4
import Derived.Test.YtghjjaijmlkbdaaO2
import Derived.OpenShut
namespace Go.Proofs.Ytghjjaijmlkbdaa
open Go.ChangeShapes Go.WideShapes Go.ChangeAt Go.RowKit
set_option maxHeartbeats 4000000 in
set_option maxRecDepth 100000 in
theorem lawLeastWidth_any (a0 : Value) (l : List ByteArray) (m : Int) (w : World) (h0 : RdL cStr 1 w a0 l) (hs0 : ∀ s ∈ l, s.size ≤ 9223372036854775807) :
    Calls Try.prog 12 #[a0, .int .i64 m] w fun e w' => e = .returned (.bool true) ∧ Below w.heap.size w w' := by
  have Hs0 := Lib.hid hs0
  clear hs0
  go_enter Try.func12, Try.ntmps12
  go_wp2_with fail
  refine (szStringS_any a0 l 1048576 _ h0 Hs0.out (by omega)).mono ?_
  rintro e _w ⟨r0, rfl, rfl, hr0, ht0⟩
  have Ht0 := Lib.hid ht0
  clear ht0
  by_cases hneg0 : r0 < 0
  · go_wp2_with fail
    go_ret
    exact ⟨rfl, Below.refl _ _⟩
  have hlen0 : strsTot l ≤ 1048576 := by have := Ht0.out (by omega); omega
  go_wp2_with fail
  refine (toStringS_any a0 l _ h0 (strsTot_len hlen0)).mono ?_
  rintro e w1 ⟨s0, rfl, owns0, q1⟩
  have os0 : OwL 9 cStr 1 w1 (s0.ownBlock.toList) s0 l := OwL.mk_ owns0
  have fs0 := fresh_of owns0
  clear owns0
  have b1 : Below w.heap.size w w1 := by first | exact q1 | exact bl_alloc q1 | exact bl_alloc (bl_alloc q1)
  have z1 := b1.size
  have hb : Below w.heap.size w w1 := b1
  go_wp2_with fail
  refine (specLeastWidth_any s0 l m _ os0.rd Hs0.out).mono ?_
  rintro e w2 ⟨rfl, q2⟩
  have b2 : Below w1.heap.size w1 w2 := by first | exact q2 | exact bl_alloc q2 | exact bl_alloc (bl_alloc q2)
  have z2 := b2.size
  replace hb : Below w.heap.size w w2 := bl_trans hb b2
  replace os0 := os0.below b2
  go_wp2_with fail
  refine (toStringS_any a0 l _ (h0.below hb) (strsTot_len hlen0)).mono ?_
  rintro e w3 ⟨x0, rfl, ownx0, q3⟩
  have ox0 : OwL 9 cStr 1 w3 (x0.ownBlock.toList) x0 l := OwL.mk_ ownx0
  have fx0 := fresh_of ownx0
  clear ownx0
  have b3 : Below w2.heap.size w2 w3 := by first | exact q3 | exact bl_alloc q3 | exact bl_alloc (bl_alloc q3)
  have z3 := b3.size
  replace hb : Below w.heap.size w w3 := bl_trans hb b3
  go_wp2_with fail
  refine (implLeastWidth_any x0 l m _ ox0.rd Hs0.out).mono ?_
  rintro e w4 ⟨rfl, q4⟩
  have b4 : Below w3.heap.size w3 w4 := by first | exact q4 | exact bl_alloc q4 | exact bl_alloc (bl_alloc q4)
  have z4 := b4.size
  replace hb : Below w.heap.size w w4 := bl_trans hb b4
  replace ox0 := ox0.below b4
  go_wp2_with fail
  refine (toStringS_any a0 l _ (h0.below hb) (strsTot_len hlen0)).mono ?_
  rintro e w5 ⟨y0, rfl, owny0, q5⟩
  have oy0 : OwL 9 cStr 1 w5 (y0.ownBlock.toList) y0 l := OwL.mk_ owny0
  have fy0 := fresh_of owny0
  clear owny0
  have b5 : Below w4.heap.size w4 w5 := by first | exact q5 | exact bl_alloc q5 | exact bl_alloc (bl_alloc q5)
  have z5 := b5.size
  replace hb : Below w.heap.size w w5 := bl_trans hb b5
  replace ox0 := ox0.below b5
  go_wp2_with fail
  refine (eqStringS_any x0 y0 l _ ox0.rd oy0.rd).mono ?_
  rintro e w6 ⟨rfl, q6⟩
  have b6 : Below w5.heap.size w5 w6 := by first | exact q6 | exact bl_alloc q6 | exact bl_alloc (bl_alloc q6)
  have z6 := b6.size
  replace hb : Below w.heap.size w w6 := bl_trans hb b6
  replace ox0 := ox0.below b6
  replace oy0 := oy0.below b6
  go_wp2_with fail
  go_ret
  exact ⟨rfl, hb⟩

set_option maxRecDepth 100000 in
set_option maxHeartbeats 1000000 in
theorem fnExactLeastWidth_lifted (os : Os) (started : os.Started) (H : Type) (enc : TypeId × Value → H) :
    ReturnsInHanded {} Try.checked os 12 .any (Rows.fnExactLeastWidthSpec.pre6 enc Try.prog Try.f12 Rows.fnExactLeastWidthRow.domain false) (Rows.fnExactLeastWidthSpec.post enc Try.prog Try.f12 false true false false) := by
  refine returnsInHanded_of_change (C := Try.checked) tryOwn started (by kernel_rfl) Try.func12
    (ChangeSpec.witness6 (enc := enc) (C := Try.checked) false ⟨#[], #[.slice none 0 0, .int .i64 0], []⟩ 12 (by kernel_rfl) (by kernel_rfl) (by kernel_rfl) (by kernel_rfl)) ?_
  intro W base args ds gs before hval0 hW hcnd _
  have hval : ∀ (j : Nat) t v, Try.f12.params[j]? = some t → args[j]? = some v → Value.okWide Try.prog W .any base t v := hval0
  have hW' := hW
  obtain ⟨p, q, hA0, hV, rfl, hfz, hnd⟩ := hW
  have hA : DataW.TrodAll enc Try.prog W 0 (fun _ => true) true Try.f12.params.toList args.toList ds p := hA0
  rw [Try.params12] at hA hval
  obtain ⟨v0, vs0, d0, ds0, p0, q0, hargs, rfl, rfl, h0, r0⟩ := trodAll_cons hA
  obtain ⟨v1, vs1, d1, ds1, p1, q1, rfl, rfl, rfl, h1, r1⟩ := trodAll_cons r0
  obtain ⟨rfl, rfl, rfl⟩ := trodAll_nil r1
  obtain rfl : args = #[v0, v1] := by cases args; simp_all
  obtain ⟨rfl, rfl⟩ := trodVars_none hV
  have e0 := h0
  have lt0 : ∀ x ∈ p0, x.block < W.heap.size := by obtain ⟨m, hm⟩ := e0; exact DataW.trod_lt m _ _ _ hm
  have ok0 := hval 0 36 v0 rfl rfl
  have e1 := h1
  have lt1 : ∀ x ∈ p1, x.block < W.heap.size := by obtain ⟨m, hm⟩ := e1; exact DataW.trod_lt m _ _ _ hm
  have ok1 := hval 1 3 v1 rfl rfl
  clear hA0 hval0 hval
  obtain ⟨l, h0', hs0'⟩ := arg_slice Try.underlying36 ok0 h0 (opens_slice (size := 1) Try.underlying36 (by kernel_rfl) (by omega) cStr_len (opens_string Try.underlying9))
  obtain ⟨m, rfl, rfl, rfl, wf1⟩ := open_int Try.underlying3 ok1 h1
  refine (lawLeastWidth_any v0 l m W h0' hs0').mono fun e W' ⟨he, bel⟩ => ?_
  subst he
  exact ⟨_, rfl, _, _, _, [], _, [], hW', trodAll_mk1 (shut_bool Try.underlying4 _), (trodAll_cons_mk (Below.trod tryLaid (by kernel_rfl) (of_decide_eq_true (by kernel_rfl)) e0 bel lt0) (trodAll_cons_mk (Below.trod tryLaid (by kernel_rfl) (of_decide_eq_true (by kernel_rfl)) e1 bel lt1) trodAll_mk0)), rfl, bel.frame _, fun h => by cases h⟩

theorem fnExactLeastWidth_holds : Rows.FnExactLeastWidthSaid :=
  OpenClaim.holds_of_wide 12 Try.f12 rfl rfl rfl rfl rfl rfl rfl ⟨rfl, rfl, rfl, rfl, rfl⟩ rfl rfl rfl rfl rfl (by kernel_rfl) Try.func12 (by kernel_rfl)
    (of_decide_eq_true (by kernel_rfl)) (by unfold Func.isWrapper; first | (rw [if_pos (by decide +kernel)]; kernel_rfl) | (rw [if_neg (by decide +kernel)]; exact ⟨rfl, rfl⟩))
    (fun os started H enc _ => fnExactLeastWidth_lifted os started H enc)
#print axioms fnExactLeastWidth_holds
end Go.Proofs.Ytghjjaijmlkbdaa
