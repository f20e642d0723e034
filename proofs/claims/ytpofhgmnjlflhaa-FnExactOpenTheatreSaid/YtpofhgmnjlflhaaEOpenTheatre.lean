/- FnExactOpenTheatre: for every input the program's OpenTheatre returns what the reference's returns. No condition. Written by a program (exact2.py). -/
import Derived.Test.YtpofhgmnjlflhaaK6
import Derived.Test.YtpofhgmnjlflhaaM4
import Derived.Test.YtpofhgmnjlflhaaO3
import Derived.OpenShut
import Derived.Deep.RegionHeld3
namespace Go.Proofs.Ytpofhgmnjlflhaa
open Go.ChangeShapes Go.WideShapes Go.ChangeAt Go.RowKit
set_option maxHeartbeats 8000000 in
set_option maxRecDepth 100000 in
theorem lawOpenTheatre_any (n : Int) (m : Int) (w : World)  :
    Calls Try.prog 6 #[.int .i64 n, .int .i64 m] w fun e w' => e = .returned (.bool true) ∧ Below w.heap.size w w' := by
  obtain ⟨n', m', ok, cs', pl', ds', hsz, C1, C2⟩ := open2 n m
  replace C1 := Lib.hid C1
  replace C2 := Lib.hid C2
  go_enter Try.func6, Try.ntmps6
  go_wp2_with fail
  refine (C1.out _).mono ?_
  rintro e w1 ⟨vw0_1, vw0_2, vw0_3, Sw0, rfl, ow0, fw0, q1⟩
  obtain ⟨⟨Aw0_0, nw0_0, rfl⟩, ⟨Aw0_1, nw0_1, rfl⟩, ⟨Aw0_2, nw0_2, rfl⟩⟩ := ow0.rd.forms
  have b1 : Below w.heap.size w w1 := q1
  have z1 : w.heap.size + 0 ≤ w1.heap.size := by have := q1.size; (try simp at this); omega
  have hb : Below w.heap.size w w1 := b1
  replace fw0 := fresh_mono (B' := w.heap.size + 0) fw0 (by first | exact Nat.le_refl _ | (simp; done) | (simp; omega)) (Nat.le_refl _)
  go_wp2_with fail
  refine (C2.out _).mono ?_
  rintro e w2 ⟨vg0_1, vg0_2, vg0_3, Sg0, rfl, og0, fg0, q2⟩
  obtain ⟨⟨Ag0_0, ng0_0, rfl⟩, ⟨Ag0_1, ng0_1, rfl⟩, ⟨Ag0_2, ng0_2, rfl⟩⟩ := og0.rd.forms
  have b2 : Below w1.heap.size w1 w2 := (bl_alloc q2)
  have z2 : w1.heap.size + 1 ≤ w2.heap.size := by have := q2.size; (try simp at this); omega
  have cw0_0 := carry (b := w1.heap.size) (o := 0) (v := .int .i64 n') q2 (by simp [go_sem])
  have cw0_1 := carry (b := w1.heap.size) (o := 1) (v := (Value.slice Aw0_0 (cs').length nw0_0)) q2 (by simp [go_sem])
  have cw0_2 := carry (b := w1.heap.size) (o := 2) (v := (Value.slice Aw0_1 (pl').length nw0_1)) q2 (by simp [go_sem])
  have cw0_3 := carry (b := w1.heap.size) (o := 3) (v := (Value.slice Aw0_2 (ds').length nw0_2)) q2 (by simp [go_sem])
  have cw0_4 := carry (b := w1.heap.size) (o := 4) (v := .int .i64 m') q2 (by simp [go_sem])
  replace ow0 := ow0.below b2
  replace hb : Below w.heap.size w w2 := bl_trans hb b2
  replace fg0 := fresh_mono (B' := w1.heap.size + 1) fg0 (by first | exact Nat.le_refl _ | (simp; done) | (simp; omega)) (Nat.le_refl _)
  have jw0_0 := (cell_alloc (.cells #[.int .i64 n', (Value.slice Ag0_0 (cs').length ng0_0), (Value.slice Ag0_1 (pl').length ng0_1), (Value.slice Ag0_2 (ds').length ng0_2), .int .i64 m'] 45) cw0_0)
  have jw0_1 := (cell_alloc (.cells #[.int .i64 n', (Value.slice Ag0_0 (cs').length ng0_0), (Value.slice Ag0_1 (pl').length ng0_1), (Value.slice Ag0_2 (ds').length ng0_2), .int .i64 m'] 45) cw0_1)
  have jw0_2 := (cell_alloc (.cells #[.int .i64 n', (Value.slice Ag0_0 (cs').length ng0_0), (Value.slice Ag0_1 (pl').length ng0_1), (Value.slice Ag0_2 (ds').length ng0_2), .int .i64 m'] 45) cw0_2)
  have jw0_3 := (cell_alloc (.cells #[.int .i64 n', (Value.slice Ag0_0 (cs').length ng0_0), (Value.slice Ag0_1 (pl').length ng0_1), (Value.slice Ag0_2 (ds').length ng0_2), .int .i64 m'] 45) cw0_3)
  have jw0_4 := (cell_alloc (.cells #[.int .i64 n', (Value.slice Ag0_0 (cs').length ng0_0), (Value.slice Ag0_1 (pl').length ng0_1), (Value.slice Ag0_2 (ds').length ng0_2), .int .i64 m'] 45) cw0_4)
  go_wp2_with fail
  refine (eqTheatre_any n' m' (Value.slice Ag0_0 (cs').length ng0_0) (Value.slice Ag0_1 (pl').length ng0_1) (Value.slice Ag0_2 (ds').length ng0_2) (Value.slice Aw0_0 (cs').length nw0_0) (Value.slice Aw0_1 (pl').length nw0_1) (Value.slice Aw0_2 (ds').length nw0_2) cs' pl' ds' _ (og0.rd.below (by (repeat' (first | exact Below.refl _ _ | (refine Below.setCell ?_ (by first | omega | (simp; omega) | (simp; done)) _) | (refine Below.alloc ?_ (by first | omega | (simp; omega) | (simp; done)) _) | (refine Below.drew ?_) | (refine below_drewN ?_ _) | (refine Below.trans ?_ (Below.mono (by assumption) (by first | omega | (simp; omega) | (simp; done)))))))) (ow0.rd.below (by (repeat' (first | exact Below.refl _ _ | (refine Below.setCell ?_ (by first | omega | (simp; omega) | (simp; done)) _) | (refine Below.alloc ?_ (by first | omega | (simp; omega) | (simp; done)) _) | (refine Below.drew ?_) | (refine below_drewN ?_ _) | (refine Below.trans ?_ (Below.mono (by assumption) (by first | omega | (simp; omega) | (simp; done))))))))).mono ?_
  rintro e w3 ⟨rfl, q3⟩
  clear jw0_0 jw0_1 jw0_2 jw0_3 jw0_4
  have b3 : Below w2.heap.size w2 w3 := (bl_alloc q3)
  have z3 : w2.heap.size + 1 ≤ w3.heap.size := by have := q3.size; (try simp at this); omega
  have cg0_0 := carry (b := w2.heap.size) (o := 0) (v := .int .i64 n') q3 (by simp [go_sem])
  have cg0_1 := carry (b := w2.heap.size) (o := 1) (v := (Value.slice Ag0_0 (cs').length ng0_0)) q3 (by simp [go_sem])
  have cg0_2 := carry (b := w2.heap.size) (o := 2) (v := (Value.slice Ag0_1 (pl').length ng0_1)) q3 (by simp [go_sem])
  have cg0_3 := carry (b := w2.heap.size) (o := 3) (v := (Value.slice Ag0_2 (ds').length ng0_2)) q3 (by simp [go_sem])
  have cg0_4 := carry (b := w2.heap.size) (o := 4) (v := .int .i64 m') q3 (by simp [go_sem])
  replace cw0_0 := carry b3 cw0_0
  replace cw0_1 := carry b3 cw0_1
  replace cw0_2 := carry b3 cw0_2
  replace cw0_3 := carry b3 cw0_3
  replace cw0_4 := carry b3 cw0_4
  replace ow0 := ow0.below b3
  replace og0 := og0.below b3
  replace hb : Below w.heap.size w w3 := bl_trans hb b3
  go_wp2_with fail
  refine (markTheatre_any n' m' (Value.slice Ag0_0 (cs').length ng0_0) (Value.slice Ag0_1 (pl').length ng0_1) (Value.slice Ag0_2 (ds').length ng0_2) cs' pl' ds' 1 _ _ _ og0 (fresh_mono fg0 (Nat.le_refl _) (by omega)) (by omega) (by omega)).mono ?_
  rintro e w4 ⟨rfl, mg0, q4⟩
  have z4 := q4.size
  replace cw0_0 := carryChg q4 cw0_0 (fresh_not fg0 (by omega))
  replace cw0_1 := carryChg q4 cw0_1 (fresh_not fg0 (by omega))
  replace cw0_2 := carryChg q4 cw0_2 (fresh_not fg0 (by omega))
  replace cw0_3 := carryChg q4 cw0_3 (fresh_not fg0 (by omega))
  replace cw0_4 := carryChg q4 cw0_4 (fresh_not fg0 (by omega))
  replace cg0_0 := carryChg q4 cg0_0 (fresh_not fg0 (by omega))
  replace cg0_1 := carryChg q4 cg0_1 (fresh_not fg0 (by omega))
  replace cg0_2 := carryChg q4 cg0_2 (fresh_not fg0 (by omega))
  replace cg0_3 := carryChg q4 cg0_3 (fresh_not fg0 (by omega))
  replace cg0_4 := carryChg q4 cg0_4 (fresh_not fg0 (by omega))
  replace ow0 := ow0.chg q4 (fresh_disj fw0 fg0 (by omega))
  replace hb : Below w.heap.size w w4 := Below.chg hb q4 (by omega) (fun b hb => by have := fg0.2 b hb; omega)
  go_wp2_with fail
  refine (heldTheatre_any n' m' (Value.slice Ag0_0 (cs').length ng0_0) (Value.slice Ag0_1 (pl').length ng0_1) (Value.slice Ag0_2 (ds').length ng0_2) cs' pl' ds' 1 _ _ (mg0.below (by (repeat' (first | exact Below.refl _ _ | (refine Below.setCell ?_ (by first | omega | (simp; omega) | (simp; done)) _) | (refine Below.alloc ?_ (by first | omega | (simp; omega) | (simp; done)) _) | (refine Below.drew ?_) | (refine below_drewN ?_ _) | (refine Below.trans ?_ (Below.mono (by assumption) (by first | omega | (simp; omega) | (simp; done)))))))) (by omega) (by omega)).mono ?_
  rintro e w5 ⟨rfl, q5⟩
  have b5 : Below w4.heap.size w4 w5 := q5
  have z5 : w4.heap.size + 0 ≤ w5.heap.size := by have := q5.size; (try simp at this); omega
  replace cw0_0 := carry b5 cw0_0
  replace cw0_1 := carry b5 cw0_1
  replace cw0_2 := carry b5 cw0_2
  replace cw0_3 := carry b5 cw0_3
  replace cw0_4 := carry b5 cw0_4
  replace cg0_0 := carry b5 cg0_0
  replace cg0_1 := carry b5 cg0_1
  replace cg0_2 := carry b5 cg0_2
  replace cg0_3 := carry b5 cg0_3
  replace cg0_4 := carry b5 cg0_4
  replace ow0 := ow0.below b5
  replace mg0 := mg0.below b5
  replace hb : Below w.heap.size w w5 := bl_trans hb b5
  go_wp2_with fail
  refine (C2.out _).mono ?_
  rintro e w6 ⟨vh0_1, vh0_2, vh0_3, Sh0, rfl, oh0, fh0, q6⟩
  obtain ⟨⟨Ah0_0, nh0_0, rfl⟩, ⟨Ah0_1, nh0_1, rfl⟩, ⟨Ah0_2, nh0_2, rfl⟩⟩ := oh0.rd.forms
  have b6 : Below w5.heap.size w5 w6 := q6
  have z6 : w5.heap.size + 0 ≤ w6.heap.size := by have := q6.size; (try simp at this); omega
  replace cw0_0 := carry b6 cw0_0
  replace cw0_1 := carry b6 cw0_1
  replace cw0_2 := carry b6 cw0_2
  replace cw0_3 := carry b6 cw0_3
  replace cw0_4 := carry b6 cw0_4
  replace cg0_0 := carry b6 cg0_0
  replace cg0_1 := carry b6 cg0_1
  replace cg0_2 := carry b6 cg0_2
  replace cg0_3 := carry b6 cg0_3
  replace cg0_4 := carry b6 cg0_4
  replace ow0 := ow0.below b6
  replace mg0 := mg0.below b6
  replace hb : Below w.heap.size w w6 := bl_trans hb b6
  replace fh0 := fresh_mono (B' := w5.heap.size + 0) fh0 (by first | exact Nat.le_refl _ | (simp; done) | (simp; omega)) (Nat.le_refl _)
  have jw0_0 := (cell_alloc (.cells #[.int .i64 n', (Value.slice Ah0_0 (cs').length nh0_0), (Value.slice Ah0_1 (pl').length nh0_1), (Value.slice Ah0_2 (ds').length nh0_2), .int .i64 m'] 45) cw0_0)
  have jw0_1 := (cell_alloc (.cells #[.int .i64 n', (Value.slice Ah0_0 (cs').length nh0_0), (Value.slice Ah0_1 (pl').length nh0_1), (Value.slice Ah0_2 (ds').length nh0_2), .int .i64 m'] 45) cw0_1)
  have jw0_2 := (cell_alloc (.cells #[.int .i64 n', (Value.slice Ah0_0 (cs').length nh0_0), (Value.slice Ah0_1 (pl').length nh0_1), (Value.slice Ah0_2 (ds').length nh0_2), .int .i64 m'] 45) cw0_2)
  have jw0_3 := (cell_alloc (.cells #[.int .i64 n', (Value.slice Ah0_0 (cs').length nh0_0), (Value.slice Ah0_1 (pl').length nh0_1), (Value.slice Ah0_2 (ds').length nh0_2), .int .i64 m'] 45) cw0_3)
  have jw0_4 := (cell_alloc (.cells #[.int .i64 n', (Value.slice Ah0_0 (cs').length nh0_0), (Value.slice Ah0_1 (pl').length nh0_1), (Value.slice Ah0_2 (ds').length nh0_2), .int .i64 m'] 45) cw0_4)
  have jg0_0 := (cell_alloc (.cells #[.int .i64 n', (Value.slice Ah0_0 (cs').length nh0_0), (Value.slice Ah0_1 (pl').length nh0_1), (Value.slice Ah0_2 (ds').length nh0_2), .int .i64 m'] 45) cg0_0)
  have jg0_1 := (cell_alloc (.cells #[.int .i64 n', (Value.slice Ah0_0 (cs').length nh0_0), (Value.slice Ah0_1 (pl').length nh0_1), (Value.slice Ah0_2 (ds').length nh0_2), .int .i64 m'] 45) cg0_1)
  have jg0_2 := (cell_alloc (.cells #[.int .i64 n', (Value.slice Ah0_0 (cs').length nh0_0), (Value.slice Ah0_1 (pl').length nh0_1), (Value.slice Ah0_2 (ds').length nh0_2), .int .i64 m'] 45) cg0_2)
  have jg0_3 := (cell_alloc (.cells #[.int .i64 n', (Value.slice Ah0_0 (cs').length nh0_0), (Value.slice Ah0_1 (pl').length nh0_1), (Value.slice Ah0_2 (ds').length nh0_2), .int .i64 m'] 45) cg0_3)
  have jg0_4 := (cell_alloc (.cells #[.int .i64 n', (Value.slice Ah0_0 (cs').length nh0_0), (Value.slice Ah0_1 (pl').length nh0_1), (Value.slice Ah0_2 (ds').length nh0_2), .int .i64 m'] 45) cg0_4)
  go_wp2_with fail
  refine (eqTheatre_any n' m' (Value.slice Ah0_0 (cs').length nh0_0) (Value.slice Ah0_1 (pl').length nh0_1) (Value.slice Ah0_2 (ds').length nh0_2) (Value.slice Aw0_0 (cs').length nw0_0) (Value.slice Aw0_1 (pl').length nw0_1) (Value.slice Aw0_2 (ds').length nw0_2) cs' pl' ds' _ (oh0.rd.below (by (repeat' (first | exact Below.refl _ _ | (refine Below.setCell ?_ (by first | omega | (simp; omega) | (simp; done)) _) | (refine Below.alloc ?_ (by first | omega | (simp; omega) | (simp; done)) _) | (refine Below.drew ?_) | (refine below_drewN ?_ _) | (refine Below.trans ?_ (Below.mono (by assumption) (by first | omega | (simp; omega) | (simp; done)))))))) (ow0.rd.below (by (repeat' (first | exact Below.refl _ _ | (refine Below.setCell ?_ (by first | omega | (simp; omega) | (simp; done)) _) | (refine Below.alloc ?_ (by first | omega | (simp; omega) | (simp; done)) _) | (refine Below.drew ?_) | (refine below_drewN ?_ _) | (refine Below.trans ?_ (Below.mono (by assumption) (by first | omega | (simp; omega) | (simp; done))))))))).mono ?_
  rintro e w7 ⟨rfl, q7⟩
  clear jw0_0 jw0_1 jw0_2 jw0_3 jw0_4 jg0_0 jg0_1 jg0_2 jg0_3 jg0_4
  have b7 : Below w6.heap.size w6 w7 := (bl_alloc q7)
  have z7 : w6.heap.size + 1 ≤ w7.heap.size := by have := q7.size; (try simp at this); omega
  have ch0_0 := carry (b := w6.heap.size) (o := 0) (v := .int .i64 n') q7 (by simp [go_sem])
  have ch0_1 := carry (b := w6.heap.size) (o := 1) (v := (Value.slice Ah0_0 (cs').length nh0_0)) q7 (by simp [go_sem])
  have ch0_2 := carry (b := w6.heap.size) (o := 2) (v := (Value.slice Ah0_1 (pl').length nh0_1)) q7 (by simp [go_sem])
  have ch0_3 := carry (b := w6.heap.size) (o := 3) (v := (Value.slice Ah0_2 (ds').length nh0_2)) q7 (by simp [go_sem])
  have ch0_4 := carry (b := w6.heap.size) (o := 4) (v := .int .i64 m') q7 (by simp [go_sem])
  replace cw0_0 := carry b7 cw0_0
  replace cw0_1 := carry b7 cw0_1
  replace cw0_2 := carry b7 cw0_2
  replace cw0_3 := carry b7 cw0_3
  replace cw0_4 := carry b7 cw0_4
  replace cg0_0 := carry b7 cg0_0
  replace cg0_1 := carry b7 cg0_1
  replace cg0_2 := carry b7 cg0_2
  replace cg0_3 := carry b7 cg0_3
  replace cg0_4 := carry b7 cg0_4
  replace ow0 := ow0.below b7
  replace mg0 := mg0.below b7
  replace oh0 := oh0.below b7
  replace hb : Below w.heap.size w w7 := bl_trans hb b7
  go_wp2_with fail
  refine (heldTheatre_any n' m' (Value.slice Ag0_0 (cs').length ng0_0) (Value.slice Ag0_1 (pl').length ng0_1) (Value.slice Ag0_2 (ds').length ng0_2) cs' pl' ds' 1 _ _ (mg0.below (by (repeat' (first | exact Below.refl _ _ | (refine Below.setCell ?_ (by first | omega | (simp; omega) | (simp; done)) _) | (refine Below.alloc ?_ (by first | omega | (simp; omega) | (simp; done)) _) | (refine Below.drew ?_) | (refine below_drewN ?_ _) | (refine Below.trans ?_ (Below.mono (by assumption) (by first | omega | (simp; omega) | (simp; done)))))))) (by omega) (by omega)).mono ?_
  rintro e w8 ⟨rfl, q8⟩
  have b8 : Below w7.heap.size w7 w8 := q8
  have z8 : w7.heap.size + 0 ≤ w8.heap.size := by have := q8.size; (try simp at this); omega
  replace cw0_0 := carry b8 cw0_0
  replace cw0_1 := carry b8 cw0_1
  replace cw0_2 := carry b8 cw0_2
  replace cw0_3 := carry b8 cw0_3
  replace cw0_4 := carry b8 cw0_4
  replace cg0_0 := carry b8 cg0_0
  replace cg0_1 := carry b8 cg0_1
  replace cg0_2 := carry b8 cg0_2
  replace cg0_3 := carry b8 cg0_3
  replace cg0_4 := carry b8 cg0_4
  replace ch0_0 := carry b8 ch0_0
  replace ch0_1 := carry b8 ch0_1
  replace ch0_2 := carry b8 ch0_2
  replace ch0_3 := carry b8 ch0_3
  replace ch0_4 := carry b8 ch0_4
  replace ow0 := ow0.below b8
  replace mg0 := mg0.below b8
  replace oh0 := oh0.below b8
  replace hb : Below w.heap.size w w8 := bl_trans hb b8
  go_wp2_with fail
  go_ret
  exact ⟨rfl, hb⟩

set_option maxRecDepth 100000 in
set_option maxHeartbeats 1000000 in
theorem fnExactOpenTheatre_lifted (os : Os) (started : os.Started) (H : Type) (enc : TypeId × Value → H) :
    ReturnsInHanded {} Try.checked os 6 .any (Rows.fnExactOpenTheatreSpec.pre6 enc Try.prog Try.f6 Rows.fnExactOpenTheatreRow.domain false) (Rows.fnExactOpenTheatreSpec.post enc Try.prog Try.f6 false true false false) := by
  refine returnsInHanded_of_change (C := Try.checked) tryOwn started (by kernel_rfl) Try.func6
    (ChangeSpec.witness6 (enc := enc) (C := Try.checked) false ⟨#[], #[.int .i64 0, .int .i64 0], []⟩ 12 (by kernel_rfl) (by kernel_rfl) (by kernel_rfl) (by kernel_rfl)) ?_
  intro W base args ds gs before hval0 hW hcnd _
  have hval : ∀ (j : Nat) t v, Try.f6.params[j]? = some t → args[j]? = some v → Value.okWide Try.prog W .any base t v := hval0
  have hW' := hW
  obtain ⟨p, q, hA0, hV, rfl, hfz, hnd⟩ := hW
  have hA : DataW.TrodAll enc Try.prog W 0 (fun _ => true) true Try.f6.params.toList args.toList ds p := hA0
  rw [Try.params6] at hA hval
  obtain ⟨v0, vs0, d0, ds0, p0, q0, hargs, rfl, rfl, h0, r0⟩ := trodAll_cons hA
  obtain ⟨v1, vs1, d1, ds1, p1, q1, rfl, rfl, rfl, h1, r1⟩ := trodAll_cons r0
  obtain ⟨rfl, rfl, rfl⟩ := trodAll_nil r1
  obtain rfl : args = #[v0, v1] := by cases args; simp_all
  obtain ⟨rfl, rfl⟩ := trodVars_none hV
  have e0 := h0
  have lt0 : ∀ x ∈ p0, x.block < W.heap.size := by obtain ⟨m, hm⟩ := e0; exact DataW.trod_lt m _ _ _ hm
  have ok0 := hval 0 3 v0 rfl rfl
  have e1 := h1
  have lt1 : ∀ x ∈ p1, x.block < W.heap.size := by obtain ⟨m, hm⟩ := e1; exact DataW.trod_lt m _ _ _ hm
  have ok1 := hval 1 3 v1 rfl rfl
  clear hA0 hval0 hval
  obtain ⟨n, rfl, rfl, rfl, wf0⟩ := open_int Try.underlying3 ok0 h0
  obtain ⟨m, rfl, rfl, rfl, wf1⟩ := open_int Try.underlying3 ok1 h1
  refine (lawOpenTheatre_any n m W).mono fun e W' ⟨he, bel⟩ => ?_
  subst he
  exact ⟨_, rfl, _, _, _, [], _, [], hW', trodAll_mk1 (shut_bool Try.underlying4 _), (trodAll_cons_mk (Below.trod tryLaid (by kernel_rfl) (of_decide_eq_true (by kernel_rfl)) e0 bel lt0) (trodAll_cons_mk (Below.trod tryLaid (by kernel_rfl) (of_decide_eq_true (by kernel_rfl)) e1 bel lt1) trodAll_mk0)), rfl, bel.frame _, fun h => by cases h⟩

theorem fnExactOpenTheatre_holds : Rows.FnExactOpenTheatreSaid :=
  OpenClaim.holds_of_wide 6 Try.f6 rfl rfl rfl rfl rfl rfl rfl ⟨rfl, rfl, rfl, rfl, rfl⟩ rfl rfl rfl rfl rfl (by kernel_rfl) Try.func6 (by kernel_rfl)
    (of_decide_eq_true (by kernel_rfl)) (by unfold Func.isWrapper; first | (rw [if_pos (by decide +kernel)]; kernel_rfl) | (rw [if_neg (by decide +kernel)]; exact ⟨rfl, rfl⟩))
    (fun os started H enc _ => fnExactOpenTheatre_lifted os started H enc)
#print axioms fnExactOpenTheatre_holds
end Go.Proofs.Ytpofhgmnjlflhaa
