/- FnExactWhyNot: for every input the program's WhyNot returns what the reference's returns. No condition. Written by a program (exact2.py). -/
import Derived.OpenShut
import Derived.Deep.RegionHeld3
import Derived.Test.YtjbhlbcjljdjmaaBd16
import Derived.Test.YtjbhlbcjljdjmaaBd1
import Derived.Test.YtjbhlbcjljdjmaaO3
namespace Go.Proofs.Ytjbhlbcjljdjmaa
open Go.ChangeShapes Go.WideShapes Go.ChangeAt Go.RowKit
set_option maxHeartbeats 8000000 in
set_option maxRecDepth 100000 in
theorem lawWhyNot_any (n : Int) (a0_0 a0_1 : Value) (cs : List RCross) (pl : List RPl) (w : World) (h0 : RdCompany w a0_0 a0_1 cs pl) :
    Calls Try.prog 4 #[.agg #[.int .i64 n, a0_0, a0_1]] w fun e w' => e = .returned (.bool true) ∧ Below w.heap.size w w' := by
  obtain ⟨⟨Aa0_0, na0_0, rfl⟩, ⟨Aa0_1, na0_1, rfl⟩⟩ := h0.forms
  have C1 := Lib.hid (fun W v1 v2 hr => specWhyNot_any n v1 v2 cs pl W hr)
  have C2 := Lib.hid (fun W v1 v2 hr => implWhyNot_any n v1 v2 cs pl W hr)
  generalize whyF n cs pl = why at *
  go_enter Try.func4, Try.ntmps4
  go_wp2_with fail
  refine (szCompany_any n (Value.slice Aa0_0 (cs).length na0_0) (Value.slice Aa0_1 (pl).length na0_1) cs pl 1048576 _ (h0.below (by (repeat' (first | exact Below.refl _ _ | (refine Below.setCell ?_ (by first | omega | (simp; omega) | (simp; done)) _) | (refine Below.alloc ?_ (by first | omega | (simp; omega) | (simp; done)) _) | (refine Below.drew ?_) | (refine below_drewN ?_ _) | (refine Below.trans ?_ (Below.mono (by assumption) (by first | omega | (simp; omega) | (simp; done)))))))) (by omega)).mono ?_
  rintro e w1 ⟨r0, rfl, q1, hr0, ht0⟩
  have Ht0 := Lib.hid ht0
  clear ht0
  have b1 : Below w.heap.size w w1 := (bl_alloc q1)
  have z1 : w.heap.size + 1 ≤ w1.heap.size := by have := q1.size; (try simp at this); omega
  have ca0_0 := carry (b := w.heap.size) (o := 0) (v := .int .i64 n) q1 (by simp [go_sem])
  have ca0_1 := carry (b := w.heap.size) (o := 1) (v := (Value.slice Aa0_0 (cs).length na0_0)) q1 (by simp [go_sem])
  have ca0_2 := carry (b := w.heap.size) (o := 2) (v := (Value.slice Aa0_1 (pl).length na0_1)) q1 (by simp [go_sem])
  have hb : Below w.heap.size w w1 := b1
  by_cases hneg0 : r0 < 0
  · go_wp2_with fail
    go_ret
    exact ⟨rfl, hb⟩
  have hlen0 : szCompany cs pl ≤ 1048576 := by have := Ht0.out (by omega); omega
  go_wp2_with fail
  refine (toCompany_any n (Value.slice Aa0_0 (cs).length na0_0) (Value.slice Aa0_1 (pl).length na0_1) cs pl _ (h0.below (by first | exact hb | exact hb.alloc hb.size _ | (repeat' (first | exact Below.refl _ _ | (refine Below.setCell ?_ (by first | omega | (simp; omega) | (simp; done)) _) | (refine Below.alloc ?_ (by first | omega | (simp; omega) | (simp; done)) _) | (refine Below.drew ?_) | (refine below_drewN ?_ _) | (refine Below.trans ?_ (Below.mono (by assumption) (by first | omega | (simp; omega) | (simp; done)))))))) hlen0).mono ?_
  rintro e w2 ⟨vs0_1, vs0_2, Ss0, rfl, os0, fs0, q2⟩
  obtain ⟨⟨As0_0, ns0_0, rfl⟩, ⟨As0_1, ns0_1, rfl⟩⟩ := os0.rd.forms
  have b2 : Below w1.heap.size w1 w2 := q2
  have z2 : w1.heap.size + 0 ≤ w2.heap.size := by have := q2.size; (try simp at this); omega
  replace ca0_0 := carry b2 ca0_0
  replace ca0_1 := carry b2 ca0_1
  replace ca0_2 := carry b2 ca0_2
  replace hb : Below w.heap.size w w2 := bl_trans hb b2
  replace fs0 := fresh_mono (B' := w1.heap.size + 0) fs0 (by first | exact Nat.le_refl _ | (simp; done) | (simp; omega)) (Nat.le_refl _)
  go_wp2_with fail
  refine (C1.out _ _ _ (os0.rd.below (by first | exact Below.refl _ _ | (repeat' (first | exact Below.refl _ _ | (refine Below.setCell ?_ (by first | omega | (simp; omega) | (simp; done)) _) | (refine Below.alloc ?_ (by first | omega | (simp; omega) | (simp; done)) _) | (refine Below.drew ?_) | (refine below_drewN ?_ _) | (refine Below.trans ?_ (Below.mono (by assumption) (by first | omega | (simp; omega) | (simp; done))))))))).mono ?_
  rintro e w3 ⟨rfl, q3⟩
  have b3 : Below w2.heap.size w2 w3 := q3
  have z3 : w2.heap.size + 0 ≤ w3.heap.size := by have := q3.size; (try simp at this); omega
  replace ca0_0 := carry b3 ca0_0
  replace ca0_1 := carry b3 ca0_1
  replace ca0_2 := carry b3 ca0_2
  replace os0 := os0.below b3
  replace hb : Below w.heap.size w w3 := bl_trans hb b3
  go_wp2_with fail
  refine (toCompany_any n (Value.slice Aa0_0 (cs).length na0_0) (Value.slice Aa0_1 (pl).length na0_1) cs pl _ (h0.below (by first | exact hb | exact hb.alloc hb.size _ | (repeat' (first | exact Below.refl _ _ | (refine Below.setCell ?_ (by first | omega | (simp; omega) | (simp; done)) _) | (refine Below.alloc ?_ (by first | omega | (simp; omega) | (simp; done)) _) | (refine Below.drew ?_) | (refine below_drewN ?_ _) | (refine Below.trans ?_ (Below.mono (by assumption) (by first | omega | (simp; omega) | (simp; done)))))))) hlen0).mono ?_
  rintro e w4 ⟨vx0_1, vx0_2, Sx0, rfl, ox0, fx0, q4⟩
  obtain ⟨⟨Ax0_0, nx0_0, rfl⟩, ⟨Ax0_1, nx0_1, rfl⟩⟩ := ox0.rd.forms
  have b4 : Below w3.heap.size w3 w4 := q4
  have z4 : w3.heap.size + 0 ≤ w4.heap.size := by have := q4.size; (try simp at this); omega
  replace ca0_0 := carry b4 ca0_0
  replace ca0_1 := carry b4 ca0_1
  replace ca0_2 := carry b4 ca0_2
  replace hb : Below w.heap.size w w4 := bl_trans hb b4
  replace fx0 := fresh_mono (B' := w3.heap.size + 0) fx0 (by first | exact Nat.le_refl _ | (simp; done) | (simp; omega)) (Nat.le_refl _)
  have ja0_0 := (cell_alloc (.cells #[.int .i64 n, (Value.slice Ax0_0 (cs).length nx0_0), (Value.slice Ax0_1 (pl).length nx0_1)] 47) ca0_0)
  have ja0_1 := (cell_alloc (.cells #[.int .i64 n, (Value.slice Ax0_0 (cs).length nx0_0), (Value.slice Ax0_1 (pl).length nx0_1)] 47) ca0_1)
  have ja0_2 := (cell_alloc (.cells #[.int .i64 n, (Value.slice Ax0_0 (cs).length nx0_0), (Value.slice Ax0_1 (pl).length nx0_1)] 47) ca0_2)
  go_wp2_with fail
  refine (C2.out _ _ _ (ox0.rd.below (by first | exact Below.refl _ _ | (repeat' (first | exact Below.refl _ _ | (refine Below.setCell ?_ (by first | omega | (simp; omega) | (simp; done)) _) | (refine Below.alloc ?_ (by first | omega | (simp; omega) | (simp; done)) _) | (refine Below.drew ?_) | (refine below_drewN ?_ _) | (refine Below.trans ?_ (Below.mono (by assumption) (by first | omega | (simp; omega) | (simp; done))))))))).mono ?_
  rintro e w5 ⟨rfl, q5⟩
  clear ja0_0 ja0_1 ja0_2
  have b5 : Below w4.heap.size w4 w5 := (bl_alloc q5)
  have z5 : w4.heap.size + 1 ≤ w5.heap.size := by have := q5.size; (try simp at this); omega
  have cx0_0 := carry (b := w4.heap.size) (o := 0) (v := .int .i64 n) q5 (by simp [go_sem])
  have cx0_1 := carry (b := w4.heap.size) (o := 1) (v := (Value.slice Ax0_0 (cs).length nx0_0)) q5 (by simp [go_sem])
  have cx0_2 := carry (b := w4.heap.size) (o := 2) (v := (Value.slice Ax0_1 (pl).length nx0_1)) q5 (by simp [go_sem])
  replace ca0_0 := carry b5 ca0_0
  replace ca0_1 := carry b5 ca0_1
  replace ca0_2 := carry b5 ca0_2
  replace ox0 := ox0.below b5
  replace hb : Below w.heap.size w w5 := bl_trans hb b5
  go_wp2_with fail
  go_region_held3 (fun w' => w'.cell? ⟨w4.heap.size, 0, none⟩ = some (.int .i64 n) ∧ w'.cell? ⟨w4.heap.size, 1, none⟩ = some ((Value.slice Ax0_0 (cs).length nx0_0)) ∧ w'.cell? ⟨w4.heap.size, 2, none⟩ = some ((Value.slice Ax0_1 (pl).length nx0_1)) ∧ w'.cell? ⟨w.heap.size, 0, none⟩ = some (.int .i64 n) ∧ w'.cell? ⟨w.heap.size, 1, none⟩ = some ((Value.slice Aa0_0 (cs).length na0_0)) ∧ w'.cell? ⟨w.heap.size, 2, none⟩ = some ((Value.slice Aa0_1 (pl).length na0_1))) (exact ⟨cx0_0, cx0_1, cx0_2, ca0_0, ca0_1, ca0_2⟩) (first | (go_at_call 21; refine (toCompany_any n (Value.slice Aa0_0 (cs).length na0_0) (Value.slice Aa0_1 (pl).length na0_1) cs pl _ (h0.below (by first | exact hb | exact hb.drew | exact below_drewN hb _)) hlen0).mono ?_; rintro e w6 ⟨vy0_1, vy0_2, Sy0, rfl, oy0, fy0, q6⟩; obtain ⟨⟨Ay0_0, ny0_0, rfl⟩, ⟨Ay0_1, ny0_1, rfl⟩⟩ := oy0.rd.forms; have b6 : Below w5.heap.size w5 w6 := (by first | exact q6 | exact ((Below.refl _ _).drew).trans q6 | exact (below_drewN (Below.refl _ _) _).trans q6); have z6 := b6.size; replace ca0_0 := carry b6 ca0_0; replace ca0_1 := carry b6 ca0_1; replace ca0_2 := carry b6 ca0_2; replace cx0_0 := carry b6 cx0_0; replace cx0_1 := carry b6 cx0_1; replace cx0_2 := carry b6 cx0_2; replace ox0 := ox0.below b6; replace hb : Below w.heap.size w w6 := bl_trans hb b6) | (go_at_call 23; refine (eqCompany_any n (Value.slice Ax0_0 (cs).length nx0_0) (Value.slice Ax0_1 (pl).length nx0_1) (Value.slice Ay0_0 (cs).length ny0_0) (Value.slice Ay0_1 (pl).length ny0_1) cs pl _ ox0.rd oy0.rd).mono ?_; rintro e w7 ⟨rfl, q7⟩; have b7 : Below w6.heap.size w6 w7 := (by first | exact q7 | exact ((Below.refl _ _).drew).trans q7 | exact (below_drewN (Below.refl _ _) _).trans q7); have z7 := b7.size; replace ca0_0 := carry b7 ca0_0; replace ca0_1 := carry b7 ca0_1; replace ca0_2 := carry b7 ca0_2; replace cx0_0 := carry b7 cx0_0; replace cx0_1 := carry b7 cx0_1; replace cx0_2 := carry b7 cx0_2; replace ox0 := ox0.below b7; replace oy0 := oy0.below b7; replace hb : Below w.heap.size w w7 := bl_trans hb b7))
  go_wp2_with fail
  go_ret
  exact ⟨rfl, hb⟩

set_option maxRecDepth 100000 in
set_option maxHeartbeats 1000000 in
theorem fnExactWhyNot_lifted (os : Os) (started : os.Started) (H : Type) (enc : TypeId × Value → H) :
    ReturnsInHanded {} Try.checked os 4 .any (Rows.fnExactWhyNotSpec.pre6 enc Try.prog Try.f4 Rows.fnExactWhyNotRow.domain false) (Rows.fnExactWhyNotSpec.post enc Try.prog Try.f4 false true false false) := by
  refine returnsInHanded_of_change (C := Try.checked) tryOwn started (by kernel_rfl) Try.func4
    (ChangeSpec.witness6 (enc := enc) (C := Try.checked) false ⟨#[], #[.agg #[.int .i64 0, .slice none 0 0, .slice none 0 0]], []⟩ 12 (by kernel_rfl) (by kernel_rfl) (by kernel_rfl) (by kernel_rfl)) ?_
  intro W base args ds gs before hval0 hW hcnd _
  have hval : ∀ (j : Nat) t v, Try.f4.params[j]? = some t → args[j]? = some v → Value.okWide Try.prog W .any base t v := hval0
  have hW' := hW
  obtain ⟨p, q, hA0, hV, rfl, hfz, hnd⟩ := hW
  have hA : DataW.TrodAll enc Try.prog W 0 (fun _ => true) true Try.f4.params.toList args.toList ds p := hA0
  rw [Try.params4] at hA hval
  obtain ⟨v0, vs0, d0, ds0, p0, q0, hargs, rfl, rfl, h0, r0⟩ := trodAll_cons hA
  obtain ⟨rfl, rfl, rfl⟩ := trodAll_nil r0
  obtain rfl : args = #[v0] := by cases args; simp_all
  obtain ⟨rfl, rfl⟩ := trodVars_none hV
  have e0 := h0
  have lt0 : ∀ x ∈ p0, x.block < W.heap.size := by obtain ⟨m, hm⟩ := e0; exact DataW.trod_lt m _ _ _ hm
  have ok0 := hval 0 41 v0 rfl rfl
  clear hA0 hval0 hval
  obtain ⟨⟨p0, q0, s0⟩, rfl, hq0⟩ := arg_struct Try.underlying41 ok0 h0 opens_lawsCompany
  obtain ⟨_, ⟨d0, hd0, _⟩, hpp0⟩ := hq0
  obtain ⟨k0, hk0, _⟩ := pls_of hpp0
  have h0' : RdCompany W q0 s0 d0 k0 := ⟨hd0, hk0⟩
  refine (lawWhyNot_any p0 q0 s0 d0 k0 W h0').mono fun e W' ⟨he, bel⟩ => ?_
  subst he
  exact ⟨_, rfl, _, _, _, [], _, [], hW', trodAll_mk1 (shut_bool Try.underlying4 _), (trodAll_cons_mk (Below.trod tryLaid (by kernel_rfl) (of_decide_eq_true (by kernel_rfl)) e0 bel lt0) trodAll_mk0), rfl, bel.frame _, fun h => by cases h⟩

theorem fnExactWhyNot_holds : Rows.FnExactWhyNotSaid :=
  OpenClaim.holds_of_wide 4 Try.f4 rfl rfl rfl rfl rfl rfl rfl ⟨rfl, rfl, rfl, rfl, rfl⟩ rfl rfl rfl rfl rfl (by kernel_rfl) Try.func4 (by kernel_rfl)
    (of_decide_eq_true (by kernel_rfl)) (by unfold Func.isWrapper; first | (rw [if_pos (by decide +kernel)]; kernel_rfl) | (rw [if_neg (by decide +kernel)]; exact ⟨rfl, rfl⟩))
    (fun os started H enc _ => fnExactWhyNot_lifted os started H enc)
#print axioms fnExactWhyNot_holds
end Go.Proofs.Ytjbhlbcjljdjmaa
