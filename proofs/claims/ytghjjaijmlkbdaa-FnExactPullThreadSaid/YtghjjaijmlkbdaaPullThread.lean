/- FnExactPullThread: for every input the program's PullThread returns what the reference's returns. No condition. -/
import Derived.Test.YtghjjaijmlkbdaaA3
import Derived.Test.YtghjjaijmlkbdaaO2
import Derived.OpenShut
namespace Go.Proofs.Ytghjjaijmlkbdaa
open Go.ChangeShapes Go.WideShapes Go.ChangeAt Go.RowKit

set_option maxHeartbeats 2000000 in
theorem lawPullThread_any (s u m : Int) (w : World) :
    Calls Try.prog 3 #[.agg #[.int .i64 s, .int .i64 u], .int .i64 m] w fun e w' => e = .returned (.bool true) ∧ Below w.heap.size w w' := by
  have c1 := fun W => specPullThread_any s u m W
  have c2 := fun W => implPullThread_any s u m W
  obtain ⟨u1, b, hv⟩ : ∃ u1 b, pullV s u m = .tuple #[.agg #[.int .i64 s, .int .i64 u1], .bool b] := ⟨_, _, rfl⟩
  rw [hv] at c1 c2
  clear hv
  have c3 := fun W => eqThread_any s u1 s u1 W
  simp only [decide_true, Bool.and_self] at c3
  have C1 := Lib.hid c1
  have C2 := Lib.hid c2
  have C3 := Lib.hid c3
  clear c1 c2 c3
  go_enter Try.func3, Try.ntmps3
  go_wp2_with fail
  refine (toThread_any _ _ _).mono ?_
  rintro e w1 ⟨rfl, hb1⟩
  have k0 := carry (b := w.heap.size) (o := 0) (v := .int .i64 s) hb1 (by simp [go_sem])
  have k1 := carry (b := w.heap.size) (o := 1) (v := .int .i64 u) hb1 (by simp [go_sem])
  go_wp2_with fail
  refine (C1.out _).mono ?_
  rintro e w2 ⟨rfl, hb2⟩
  replace k0 := carry hb2 k0
  replace k1 := carry hb2 k1
  have j0 : (w2.alloc (Obj.cells #[Value.int IntKind.i64 s, Value.int IntKind.i64 u1] 24)).cell? ⟨w.heap.size, 0, none⟩ = some (.int .i64 s) := cell_alloc _ k0
  have j1 : (w2.alloc (Obj.cells #[Value.int IntKind.i64 s, Value.int IntKind.i64 u1] 24)).cell? ⟨w.heap.size, 1, none⟩ = some (.int .i64 u) := cell_alloc _ k1
  go_wp2_with fail
  refine (toThread_any _ _ _).mono ?_
  rintro e w3 ⟨rfl, hb3⟩
  have k2 := carry (b := w2.heap.size) (o := 0) (v := .int .i64 s) hb3 (by simp [go_sem])
  have k3 := carry (b := w2.heap.size) (o := 1) (v := .int .i64 u1) hb3 (by simp [go_sem])
  clear k0 k1 j0 j1
  go_wp2_with fail
  refine (C2.out _).mono ?_
  rintro e w4 ⟨rfl, hb4⟩
  replace k2 := carry hb4 k2
  replace k3 := carry hb4 k3
  have j0 : (w4.alloc (Obj.cells #[Value.int IntKind.i64 s, Value.int IntKind.i64 u1] 24)).cell? ⟨w2.heap.size, 0, none⟩ = some (.int .i64 s) := cell_alloc _ k2
  have j1 : (w4.alloc (Obj.cells #[Value.int IntKind.i64 s, Value.int IntKind.i64 u1] 24)).cell? ⟨w2.heap.size, 1, none⟩ = some (.int .i64 u1) := cell_alloc _ k3
  go_wp2_with fail
  refine (C3.out _).mono ?_
  rintro e w5 ⟨rfl, hb5⟩
  have z1 := hb1.size
  have z2 := hb2.size
  have z3 := hb3.size
  have z4 := hb4.size
  have z5 := hb5.size
  simp at z1 z2 z3 z4 z5
  go_wp2_with fail
  go_ret
  exact ⟨rfl, by (repeat' (first | exact Below.refl _ _ | (refine Below.setCell ?_ (by first | omega | (simp; omega) | (simp; done)) _) | (refine Below.alloc ?_ (by first | omega | (simp; omega) | (simp; done)) _) | (refine Below.drew ?_) | (refine below_drewN ?_ _) | (refine Below.trans ?_ (Below.mono (by assumption) (by first | omega | (simp; omega) | (simp; done))))))⟩

set_option maxRecDepth 100000 in
set_option maxHeartbeats 1000000 in
theorem fnExactPullThread_lifted (os : Os) (started : os.Started) (H : Type) (enc : TypeId × Value → H) :
    ReturnsInHanded {} Try.checked os 3 .any (Rows.fnExactPullThreadSpec.pre6 enc Try.prog Try.f3 Rows.fnExactPullThreadRow.domain false) (Rows.fnExactPullThreadSpec.post enc Try.prog Try.f3 false true false false) := by
  refine returnsInHanded_of_change (C := Try.checked) tryOwn started (by kernel_rfl) Try.func3
    (ChangeSpec.witness6 (enc := enc) (C := Try.checked) false ⟨#[], #[.agg #[.int .i64 0, .int .i64 0], .int .i64 0], []⟩ 12 (by kernel_rfl) (by kernel_rfl) (by kernel_rfl) (by kernel_rfl)) ?_
  intro W base args ds gs before hval0 hW hcnd _
  have hval : ∀ (j : Nat) t v, Try.f3.params[j]? = some t → args[j]? = some v → Value.okWide Try.prog W .any base t v := hval0
  have hW' := hW
  obtain ⟨p, q, hA0, hV, rfl, hfz, hnd⟩ := hW
  have hA : DataW.TrodAll enc Try.prog W 0 (fun _ => true) true Try.f3.params.toList args.toList ds p := hA0
  rw [Try.params3] at hA hval
  obtain ⟨v0, vs0, d0, ds0, p0, q0, hargs, rfl, rfl, h0, r0⟩ := trodAll_cons hA
  obtain ⟨v1, vs1, d1, ds1, p1, q1, rfl, rfl, rfl, h1, r1⟩ := trodAll_cons r0
  obtain ⟨rfl, rfl, rfl⟩ := trodAll_nil r1
  obtain rfl : args = #[v0, v1] := by cases args; simp_all
  obtain ⟨rfl, rfl⟩ := trodVars_none hV
  have e0 := h0
  have lt0 : ∀ x ∈ p0, x.block < W.heap.size := by obtain ⟨m, hm⟩ := e0; exact DataW.trod_lt m _ _ _ hm
  have ok0 := hval 0 23 v0 rfl rfl
  have e1 := h1
  have lt1 : ∀ x ∈ p1, x.block < W.heap.size := by obtain ⟨m, hm⟩ := e1; exact DataW.trod_lt m _ _ _ hm
  have ok1 := hval 1 3 v1 rfl rfl
  clear hA0 hval0 hval
  obtain ⟨⟨s, u⟩, rfl, _⟩ := arg_struct Try.underlying23 ok0 h0 opens_lawsThread
  obtain ⟨m, rfl, rfl, rfl, wm⟩ := open_int Try.underlying3 ok1 h1
  refine (lawPullThread_any s u m W).mono fun e W' ⟨he, bel⟩ => ?_
  subst he
  exact ⟨_, rfl, _, _, _, [], _, [], hW', trodAll_mk1 (shut_bool Try.underlying4 _), (trodAll_cons_mk (Below.trod tryLaid (by kernel_rfl) (of_decide_eq_true (by kernel_rfl)) e0 bel lt0) (trodAll_cons_mk (Below.trod tryLaid (by kernel_rfl) (of_decide_eq_true (by kernel_rfl)) e1 bel lt1) trodAll_mk0)), rfl, bel.frame _, fun h => by cases h⟩

theorem fnExactPullThread_holds : Rows.FnExactPullThreadSaid :=
  OpenClaim.holds_of_wide 3 Try.f3 rfl rfl rfl rfl rfl rfl rfl ⟨rfl, rfl, rfl, rfl, rfl⟩ rfl rfl rfl rfl rfl (by kernel_rfl) Try.func3 (by kernel_rfl)
    (of_decide_eq_true (by kernel_rfl)) (by unfold Func.isWrapper; first | (rw [if_pos (by decide +kernel)]; kernel_rfl) | (rw [if_neg (by decide +kernel)]; exact ⟨rfl, rfl⟩))
    (fun os started H enc _ => fnExactPullThread_lifted os started H enc)
#print axioms fnExactPullThread_holds
end Go.Proofs.Ytghjjaijmlkbdaa
