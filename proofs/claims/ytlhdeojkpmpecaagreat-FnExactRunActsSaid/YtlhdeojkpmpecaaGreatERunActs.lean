/- FnExactRunActs: for every input the program's RunActs returns what the reference's returns. No condition. Written by a program (exact2.py). -/
import Derived.OpenShut
import Derived.Deep.RegionHeld3
import Derived.Deep.DeepCutAuto
import Derived.Test.YtlhdeojkpmpecaaGreatK24
import Derived.Test.YtlhdeojkpmpecaaGreatBdM7x3
import Derived.Test.YtlhdeojkpmpecaaGreatBdA1x8
import Derived.Test.YtlhdeojkpmpecaaGreatO3
namespace Go.Proofs.YtlhdeojkpmpecaaGreat
open Go.ChangeShapes Go.WideShapes Go.ChangeAt Go.RowKit
set_option maxHeartbeats 32000000 in
set_option maxRecDepth 100000 in
theorem lawRunActs_any (n m : Int) (a0_0 a0_1 a0_2 : Value) (cs : List RCross) (pl : List RPl) (ds : List Int) (a1_0 : Value) (acts : List RAct) (w : World) (h0 : RdTheatre w a0_0 a0_1 a0_2 cs pl ds) (h1 : RdL cAct 3 w a1_0 acts) :
  Calls Tryz.prog 4 #[.agg #[.int .i64 n, a0_0, a0_1, a0_2, .int .i64 m], a1_0] w fun e w' => e = .returned (.bool true) ∧ Below w.heap.size w w' := by
 obtain ⟨⟨Aa0_0, na0_0, rfl⟩, ⟨Aa0_1, na0_1, rfl⟩, ⟨Aa0_2, na0_2, rfl⟩⟩ := h0.forms
 obtain ⟨n', m', cs', pl', ds', ns', hs', hns', C1, C2⟩ := run2 n m acts cs pl ds
 replace C1 := Lib.hid C1
 replace C2 := Lib.hid C2
 go_enter Tryz.func4, Tryz.ntmps4
 go_wp2_with fail
 refine (szTheatre_any n m (Value.slice Aa0_0 (cs).length na0_0) (Value.slice Aa0_1 (pl).length na0_1) (Value.slice Aa0_2 (ds).length na0_2) cs pl ds 1048576 _ (h0.below (by (repeat' (first | exact Below.refl _ _ | refine qS ?_ _ | refine qA ?_ _ | refine qD ?_ | refine qN ?_ _ | refine qT ?_ (by assumption))))) (by omega)).mono ?_
 rintro e w1 ⟨r0, rfl, q1, hr0, ht0⟩
 have Ht0 := Lib.hid ht0
 clear ht0
 have b1 : Below w.heap.size w w1 := (bl_alloc q1)
 have z1 : w.heap.size + 1 ≤ w1.heap.size := by have := q1.size; (try simp at this); omega
 have ca0_0 := carry (b := w.heap.size) (o := 0) (v := .int .i64 n) q1 (by simp [go_sem])
 have ca0_1 := carry (b := w.heap.size) (o := 1) (v := (Value.slice Aa0_0 (cs).length na0_0)) q1 (by simp [go_sem])
 have ca0_2 := carry (b := w.heap.size) (o := 2) (v := (Value.slice Aa0_1 (pl).length na0_1)) q1 (by simp [go_sem])
 have ca0_3 := carry (b := w.heap.size) (o := 3) (v := (Value.slice Aa0_2 (ds).length na0_2)) q1 (by simp [go_sem])
 have ca0_4 := carry (b := w.heap.size) (o := 4) (v := .int .i64 m) q1 (by simp [go_sem])
 have hb : Below w.heap.size w w1 := b1
 by_cases hneg0 : r0 < 0
 ·go_wp2_with fail
  go_ret
  exact ⟨rfl, hb⟩
 have hlen0 : szTheatre cs pl ds ≤ 1048576 := by have := Ht0.out (by omega); omega
 go_wp2_with fail
 refine (szB_of (szActS_any a1_0 acts r0 _ (h1.below hb) (by omega))).mono ?_
 rintro e w2 ⟨r1, rfl, q2, hr1, ht1⟩
 have Ht1 := Lib.hid ht1
 clear ht1
 have b2 : Below w1.heap.size w1 w2 := q2
 have z2 : w1.heap.size + 0 ≤ w2.heap.size := by have := q2.size; (try simp at this); omega
 replace ca0_0 := carry b2 ca0_0
 replace ca0_1 := carry b2 ca0_1
 replace ca0_2 := carry b2 ca0_2
 replace ca0_3 := carry b2 ca0_3
 replace ca0_4 := carry b2 ca0_4
 replace hb : Below w.heap.size w w2 := bl_trans hb b2
 by_cases hneg1 : r1 < 0
 ·go_wp2_with fail
  go_ret
  exact ⟨rfl, hb⟩
 have hlen1 : acts.length ≤ 1048576 := by have := Ht1.out (by omega); omega
 go_wp2_with fail
 refine (toTheatre_any n m (Value.slice Aa0_0 (cs).length na0_0) (Value.slice Aa0_1 (pl).length na0_1) (Value.slice Aa0_2 (ds).length na0_2) cs pl ds _ (h0.below (by first | exact hb | exact hb.alloc hb.size _ | (repeat' (first | exact Below.refl _ _ | refine qS ?_ _ | refine qA ?_ _ | refine qD ?_ | refine qN ?_ _ | refine qT ?_ (by assumption))))) hlen0).mono ?_
 rintro e w3 ⟨vs0_1, vs0_2, vs0_3, Ss0, rfl, os0, fs0, q3⟩
 obtain ⟨⟨As0_0, ns0_0, rfl⟩, ⟨As0_1, ns0_1, rfl⟩, ⟨As0_2, ns0_2, rfl⟩⟩ := os0.rd.forms
 have b3 : Below w2.heap.size w2 w3 := q3
 have z3 : w2.heap.size + 0 ≤ w3.heap.size := by have := q3.size; (try simp at this); omega
 replace ca0_0 := carry b3 ca0_0
 replace ca0_1 := carry b3 ca0_1
 replace ca0_2 := carry b3 ca0_2
 replace ca0_3 := carry b3 ca0_3
 replace ca0_4 := carry b3 ca0_4
 replace hb : Below w.heap.size w w3 := bl_trans hb b3
 replace fs0 := fresh_mono (B' := w2.heap.size + 0) fs0 (by first | exact Nat.le_refl _ | (simp; done) | (simp; omega)) (Nat.le_refl _)
 go_wp2_with fail
 refine (toActS_any a1_0 acts _ (h1.below (by first | exact hb | exact hb.alloc hb.size _ | (repeat' (first | exact Below.refl _ _ | refine qS ?_ _ | refine qA ?_ _ | refine qD ?_ | refine qN ?_ _ | refine qT ?_ (by assumption))))) hlen1).mono ?_
 rintro e w4 ⟨vs1_0, rfl, owns1, q4⟩
 have os1 : OwL 41 cAct 3 w4 (vs1_0.ownBlock.toList) vs1_0 (acts) := OwL.mk_ owns1
 have fs1 := fresh_of owns1
 clear owns1
 obtain ⟨As1_0, ns1_0, rfl, _, _⟩ := os1.rd.form
 have b4 : Below w3.heap.size w3 w4 := q4
 have z4 : w3.heap.size + 0 ≤ w4.heap.size := by have := q4.size; (try simp at this); omega
 replace ca0_0 := carry b4 ca0_0
 replace ca0_1 := carry b4 ca0_1
 replace ca0_2 := carry b4 ca0_2
 replace ca0_3 := carry b4 ca0_3
 replace ca0_4 := carry b4 ca0_4
 replace os0 := os0.below b4
 replace hb : Below w.heap.size w w4 := bl_trans hb b4
 replace fs1 := fresh_mono (B' := w3.heap.size + 0) fs1 (by first | exact Nat.le_refl _ | (simp; done) | (simp; omega)) (Nat.le_refl _)
 go_wp2_with fail
 refine (C1.out _ _ _ _ _ (os0.rd.below (by first | exact Below.refl _ _ | (repeat' (first | exact Below.refl _ _ | refine qS ?_ _ | refine qA ?_ _ | refine qD ?_ | refine qN ?_ _ | refine qT ?_ (by assumption))))) (os1.rd.below (by first | exact Below.refl _ _ | (repeat' (first | exact Below.refl _ _ | refine qS ?_ _ | refine qA ?_ _ | refine qD ?_ | refine qN ?_ _ | refine qT ?_ (by assumption))))) hlen0).mono ?_
 rintro e w5 ⟨vw0_1, vw0_2, vw0_3, Sw0, vw1_0, Sw1, rfl, ow0, fw0, ow1, fw1, djw, q5⟩
 obtain ⟨⟨Aw0_0, nw0_0, rfl⟩, ⟨Aw0_1, nw0_1, rfl⟩, ⟨Aw0_2, nw0_2, rfl⟩⟩ := ow0.rd.forms
 obtain ⟨Aw1_0, nw1_0, rfl, _, _⟩ := ow1.rd.form
 have eSw1 := ow1.2
 subst eSw1
 have Djw := Lib.hid djw
 clear djw
 have b5 : Below w4.heap.size w4 w5 := q5
 have z5 : w4.heap.size + 0 ≤ w5.heap.size := by have := q5.size; (try simp at this); omega
 replace ca0_0 := carry b5 ca0_0
 replace ca0_1 := carry b5 ca0_1
 replace ca0_2 := carry b5 ca0_2
 replace ca0_3 := carry b5 ca0_3
 replace ca0_4 := carry b5 ca0_4
 replace os0 := os0.below b5
 replace os1 := os1.below b5
 replace hb : Below w.heap.size w w5 := bl_trans hb b5
 replace fw0 := fresh_mono (B' := w4.heap.size + 0) fw0 (by first | exact Nat.le_refl _ | (simp; done) | (simp; omega)) (Nat.le_refl _)
 replace fw1 := fresh_mono (B' := w4.heap.size + 0) fw1 (by first | exact Nat.le_refl _ | (simp; done) | (simp; omega)) (Nat.le_refl _)
 have ja0_0 := (cell_alloc (.cells #[.int .i64 n', (Value.slice Aw0_0 (cs').length nw0_0), (Value.slice Aw0_1 (pl').length nw0_1), (Value.slice Aw0_2 (ds').length nw0_2), .int .i64 m'] 37) ca0_0)
 have ja0_1 := (cell_alloc (.cells #[.int .i64 n', (Value.slice Aw0_0 (cs').length nw0_0), (Value.slice Aw0_1 (pl').length nw0_1), (Value.slice Aw0_2 (ds').length nw0_2), .int .i64 m'] 37) ca0_1)
 have ja0_2 := (cell_alloc (.cells #[.int .i64 n', (Value.slice Aw0_0 (cs').length nw0_0), (Value.slice Aw0_1 (pl').length nw0_1), (Value.slice Aw0_2 (ds').length nw0_2), .int .i64 m'] 37) ca0_2)
 have ja0_3 := (cell_alloc (.cells #[.int .i64 n', (Value.slice Aw0_0 (cs').length nw0_0), (Value.slice Aw0_1 (pl').length nw0_1), (Value.slice Aw0_2 (ds').length nw0_2), .int .i64 m'] 37) ca0_3)
 have ja0_4 := (cell_alloc (.cells #[.int .i64 n', (Value.slice Aw0_0 (cs').length nw0_0), (Value.slice Aw0_1 (pl').length nw0_1), (Value.slice Aw0_2 (ds').length nw0_2), .int .i64 m'] 37) ca0_4)
 go_wp2_with fail
 refine (toTheatre_any n m (Value.slice Aa0_0 (cs).length na0_0) (Value.slice Aa0_1 (pl).length na0_1) (Value.slice Aa0_2 (ds).length na0_2) cs pl ds _ (h0.below (by first | exact hb | exact hb.alloc hb.size _ | (repeat' (first | exact Below.refl _ _ | refine qS ?_ _ | refine qA ?_ _ | refine qD ?_ | refine qN ?_ _ | refine qT ?_ (by assumption))))) hlen0).mono ?_
 rintro e w6 ⟨vx0_1, vx0_2, vx0_3, Sx0, rfl, ox0, fx0, q6⟩
 clear ja0_0 ja0_1 ja0_2 ja0_3 ja0_4
 obtain ⟨⟨Ax0_0, nx0_0, rfl⟩, ⟨Ax0_1, nx0_1, rfl⟩, ⟨Ax0_2, nx0_2, rfl⟩⟩ := ox0.rd.forms
 have b6 : Below w5.heap.size w5 w6 := (bl_alloc q6)
 have z6 : w5.heap.size + 1 ≤ w6.heap.size := by have := q6.size; (try simp at this); omega
 have cw0_0 := carry (b := w5.heap.size) (o := 0) (v := .int .i64 n') q6 (by simp [go_sem])
 have cw0_1 := carry (b := w5.heap.size) (o := 1) (v := (Value.slice Aw0_0 (cs').length nw0_0)) q6 (by simp [go_sem])
 have cw0_2 := carry (b := w5.heap.size) (o := 2) (v := (Value.slice Aw0_1 (pl').length nw0_1)) q6 (by simp [go_sem])
 have cw0_3 := carry (b := w5.heap.size) (o := 3) (v := (Value.slice Aw0_2 (ds').length nw0_2)) q6 (by simp [go_sem])
 have cw0_4 := carry (b := w5.heap.size) (o := 4) (v := .int .i64 m') q6 (by simp [go_sem])
 replace ca0_0 := carry b6 ca0_0
 replace ca0_1 := carry b6 ca0_1
 replace ca0_2 := carry b6 ca0_2
 replace ca0_3 := carry b6 ca0_3
 replace ca0_4 := carry b6 ca0_4
 replace ow0 := ow0.below b6
 replace ow1 := ow1.below b6
 replace hb : Below w.heap.size w w6 := bl_trans hb b6
 replace fx0 := fresh_mono (B' := w5.heap.size + 1) fx0 (by first | exact Nat.le_refl _ | (simp; done) | (simp; omega)) (Nat.le_refl _)
 have ja0_0 := (cell_alloc (.cells #[.int .i64 n, (Value.slice Ax0_0 (cs).length nx0_0), (Value.slice Ax0_1 (pl).length nx0_1), (Value.slice Ax0_2 (ds).length nx0_2), .int .i64 m] 37) ca0_0)
 have ja0_1 := (cell_alloc (.cells #[.int .i64 n, (Value.slice Ax0_0 (cs).length nx0_0), (Value.slice Ax0_1 (pl).length nx0_1), (Value.slice Ax0_2 (ds).length nx0_2), .int .i64 m] 37) ca0_1)
 have ja0_2 := (cell_alloc (.cells #[.int .i64 n, (Value.slice Ax0_0 (cs).length nx0_0), (Value.slice Ax0_1 (pl).length nx0_1), (Value.slice Ax0_2 (ds).length nx0_2), .int .i64 m] 37) ca0_2)
 have ja0_3 := (cell_alloc (.cells #[.int .i64 n, (Value.slice Ax0_0 (cs).length nx0_0), (Value.slice Ax0_1 (pl).length nx0_1), (Value.slice Ax0_2 (ds).length nx0_2), .int .i64 m] 37) ca0_3)
 have ja0_4 := (cell_alloc (.cells #[.int .i64 n, (Value.slice Ax0_0 (cs).length nx0_0), (Value.slice Ax0_1 (pl).length nx0_1), (Value.slice Ax0_2 (ds).length nx0_2), .int .i64 m] 37) ca0_4)
 have jw0_0 := (cell_alloc (.cells #[.int .i64 n, (Value.slice Ax0_0 (cs).length nx0_0), (Value.slice Ax0_1 (pl).length nx0_1), (Value.slice Ax0_2 (ds).length nx0_2), .int .i64 m] 37) cw0_0)
 have jw0_1 := (cell_alloc (.cells #[.int .i64 n, (Value.slice Ax0_0 (cs).length nx0_0), (Value.slice Ax0_1 (pl).length nx0_1), (Value.slice Ax0_2 (ds).length nx0_2), .int .i64 m] 37) cw0_1)
 have jw0_2 := (cell_alloc (.cells #[.int .i64 n, (Value.slice Ax0_0 (cs).length nx0_0), (Value.slice Ax0_1 (pl).length nx0_1), (Value.slice Ax0_2 (ds).length nx0_2), .int .i64 m] 37) cw0_2)
 have jw0_3 := (cell_alloc (.cells #[.int .i64 n, (Value.slice Ax0_0 (cs).length nx0_0), (Value.slice Ax0_1 (pl).length nx0_1), (Value.slice Ax0_2 (ds).length nx0_2), .int .i64 m] 37) cw0_3)
 have jw0_4 := (cell_alloc (.cells #[.int .i64 n, (Value.slice Ax0_0 (cs).length nx0_0), (Value.slice Ax0_1 (pl).length nx0_1), (Value.slice Ax0_2 (ds).length nx0_2), .int .i64 m] 37) cw0_4)
 go_wp2_with fail
 refine (toActS_any a1_0 acts _ (h1.below (by first | exact hb | exact hb.alloc hb.size _ | (repeat' (first | exact Below.refl _ _ | refine qS ?_ _ | refine qA ?_ _ | refine qD ?_ | refine qN ?_ _ | refine qT ?_ (by assumption))))) hlen1).mono ?_
 rintro e w7 ⟨vx1_0, rfl, ownx1, q7⟩
 clear ja0_0 ja0_1 ja0_2 ja0_3 ja0_4 jw0_0 jw0_1 jw0_2 jw0_3 jw0_4
 have ox1 : OwL 41 cAct 3 w7 (vx1_0.ownBlock.toList) vx1_0 (acts) := OwL.mk_ ownx1
 have fx1 := fresh_of ownx1
 clear ownx1
 obtain ⟨Ax1_0, nx1_0, rfl, _, _⟩ := ox1.rd.form
 have b7 : Below w6.heap.size w6 w7 := (bl_alloc q7)
 have z7 : w6.heap.size + 1 ≤ w7.heap.size := by have := q7.size; (try simp at this); omega
 have cx0_0 := carry (b := w6.heap.size) (o := 0) (v := .int .i64 n) q7 (by simp [go_sem])
 have cx0_1 := carry (b := w6.heap.size) (o := 1) (v := (Value.slice Ax0_0 (cs).length nx0_0)) q7 (by simp [go_sem])
 have cx0_2 := carry (b := w6.heap.size) (o := 2) (v := (Value.slice Ax0_1 (pl).length nx0_1)) q7 (by simp [go_sem])
 have cx0_3 := carry (b := w6.heap.size) (o := 3) (v := (Value.slice Ax0_2 (ds).length nx0_2)) q7 (by simp [go_sem])
 have cx0_4 := carry (b := w6.heap.size) (o := 4) (v := .int .i64 m) q7 (by simp [go_sem])
 replace ca0_0 := carry b7 ca0_0
 replace ca0_1 := carry b7 ca0_1
 replace ca0_2 := carry b7 ca0_2
 replace ca0_3 := carry b7 ca0_3
 replace ca0_4 := carry b7 ca0_4
 replace cw0_0 := carry b7 cw0_0
 replace cw0_1 := carry b7 cw0_1
 replace cw0_2 := carry b7 cw0_2
 replace cw0_3 := carry b7 cw0_3
 replace cw0_4 := carry b7 cw0_4
 replace ow0 := ow0.below b7
 replace ow1 := ow1.below b7
 replace ox0 := ox0.below b7
 replace hb : Below w.heap.size w w7 := bl_trans hb b7
 replace fx1 := fresh_mono (B' := w6.heap.size + 1) fx1 (by first | exact Nat.le_refl _ | (simp; done) | (simp; omega)) (Nat.le_refl _)
 go_wp2_with fail
 refine (C2.out _ _ _ _ _ (ox0.rd.below (by first | exact Below.refl _ _ | (repeat' (first | exact Below.refl _ _ | refine qS ?_ _ | refine qA ?_ _ | refine qD ?_ | refine qN ?_ _ | refine qT ?_ (by assumption))))) (ox1.rd.below (by first | exact Below.refl _ _ | (repeat' (first | exact Below.refl _ _ | refine qS ?_ _ | refine qA ?_ _ | refine qD ?_ | refine qN ?_ _ | refine qT ?_ (by assumption))))) hlen0).mono ?_
 rintro e w8 ⟨vg0_1, vg0_2, vg0_3, Sg0, vg1_0, Sg1, rfl, og0, fg0, og1, fg1, djg, q8⟩
 obtain ⟨⟨Ag0_0, ng0_0, rfl⟩, ⟨Ag0_1, ng0_1, rfl⟩, ⟨Ag0_2, ng0_2, rfl⟩⟩ := og0.rd.forms
 obtain ⟨Ag1_0, ng1_0, rfl, _, _⟩ := og1.rd.form
 have eSg1 := og1.2
 subst eSg1
 have Djg := Lib.hid djg
 clear djg
 have b8 : Below w7.heap.size w7 w8 := q8
 have z8 : w7.heap.size + 0 ≤ w8.heap.size := by have := q8.size; (try simp at this); omega
 replace ca0_0 := carry b8 ca0_0
 replace ca0_1 := carry b8 ca0_1
 replace ca0_2 := carry b8 ca0_2
 replace ca0_3 := carry b8 ca0_3
 replace ca0_4 := carry b8 ca0_4
 replace cw0_0 := carry b8 cw0_0
 replace cw0_1 := carry b8 cw0_1
 replace cw0_2 := carry b8 cw0_2
 replace cw0_3 := carry b8 cw0_3
 replace cw0_4 := carry b8 cw0_4
 replace cx0_0 := carry b8 cx0_0
 replace cx0_1 := carry b8 cx0_1
 replace cx0_2 := carry b8 cx0_2
 replace cx0_3 := carry b8 cx0_3
 replace cx0_4 := carry b8 cx0_4
 replace ow0 := ow0.below b8
 replace ow1 := ow1.below b8
 replace ox0 := ox0.below b8
 replace ox1 := ox1.below b8
 replace hb : Below w.heap.size w w8 := bl_trans hb b8
 replace fg0 := fresh_mono (B' := w7.heap.size + 0) fg0 (by first | exact Nat.le_refl _ | (simp; done) | (simp; omega)) (Nat.le_refl _)
 replace fg1 := fresh_mono (B' := w7.heap.size + 0) fg1 (by first | exact Nat.le_refl _ | (simp; done) | (simp; omega)) (Nat.le_refl _)
 have ja0_0 := (cell_alloc (.cells #[.int .i64 n', (Value.slice Ag0_0 (cs').length ng0_0), (Value.slice Ag0_1 (pl').length ng0_1), (Value.slice Ag0_2 (ds').length ng0_2), .int .i64 m'] 37) ca0_0)
 have ja0_1 := (cell_alloc (.cells #[.int .i64 n', (Value.slice Ag0_0 (cs').length ng0_0), (Value.slice Ag0_1 (pl').length ng0_1), (Value.slice Ag0_2 (ds').length ng0_2), .int .i64 m'] 37) ca0_1)
 have ja0_2 := (cell_alloc (.cells #[.int .i64 n', (Value.slice Ag0_0 (cs').length ng0_0), (Value.slice Ag0_1 (pl').length ng0_1), (Value.slice Ag0_2 (ds').length ng0_2), .int .i64 m'] 37) ca0_2)
 have ja0_3 := (cell_alloc (.cells #[.int .i64 n', (Value.slice Ag0_0 (cs').length ng0_0), (Value.slice Ag0_1 (pl').length ng0_1), (Value.slice Ag0_2 (ds').length ng0_2), .int .i64 m'] 37) ca0_3)
 have ja0_4 := (cell_alloc (.cells #[.int .i64 n', (Value.slice Ag0_0 (cs').length ng0_0), (Value.slice Ag0_1 (pl').length ng0_1), (Value.slice Ag0_2 (ds').length ng0_2), .int .i64 m'] 37) ca0_4)
 have jw0_0 := (cell_alloc (.cells #[.int .i64 n', (Value.slice Ag0_0 (cs').length ng0_0), (Value.slice Ag0_1 (pl').length ng0_1), (Value.slice Ag0_2 (ds').length ng0_2), .int .i64 m'] 37) cw0_0)
 have jw0_1 := (cell_alloc (.cells #[.int .i64 n', (Value.slice Ag0_0 (cs').length ng0_0), (Value.slice Ag0_1 (pl').length ng0_1), (Value.slice Ag0_2 (ds').length ng0_2), .int .i64 m'] 37) cw0_1)
 have jw0_2 := (cell_alloc (.cells #[.int .i64 n', (Value.slice Ag0_0 (cs').length ng0_0), (Value.slice Ag0_1 (pl').length ng0_1), (Value.slice Ag0_2 (ds').length ng0_2), .int .i64 m'] 37) cw0_2)
 have jw0_3 := (cell_alloc (.cells #[.int .i64 n', (Value.slice Ag0_0 (cs').length ng0_0), (Value.slice Ag0_1 (pl').length ng0_1), (Value.slice Ag0_2 (ds').length ng0_2), .int .i64 m'] 37) cw0_3)
 have jw0_4 := (cell_alloc (.cells #[.int .i64 n', (Value.slice Ag0_0 (cs').length ng0_0), (Value.slice Ag0_1 (pl').length ng0_1), (Value.slice Ag0_2 (ds').length ng0_2), .int .i64 m'] 37) cw0_4)
 have jx0_0 := (cell_alloc (.cells #[.int .i64 n', (Value.slice Ag0_0 (cs').length ng0_0), (Value.slice Ag0_1 (pl').length ng0_1), (Value.slice Ag0_2 (ds').length ng0_2), .int .i64 m'] 37) cx0_0)
 have jx0_1 := (cell_alloc (.cells #[.int .i64 n', (Value.slice Ag0_0 (cs').length ng0_0), (Value.slice Ag0_1 (pl').length ng0_1), (Value.slice Ag0_2 (ds').length ng0_2), .int .i64 m'] 37) cx0_1)
 have jx0_2 := (cell_alloc (.cells #[.int .i64 n', (Value.slice Ag0_0 (cs').length ng0_0), (Value.slice Ag0_1 (pl').length ng0_1), (Value.slice Ag0_2 (ds').length ng0_2), .int .i64 m'] 37) cx0_2)
 have jx0_3 := (cell_alloc (.cells #[.int .i64 n', (Value.slice Ag0_0 (cs').length ng0_0), (Value.slice Ag0_1 (pl').length ng0_1), (Value.slice Ag0_2 (ds').length ng0_2), .int .i64 m'] 37) cx0_3)
 have jx0_4 := (cell_alloc (.cells #[.int .i64 n', (Value.slice Ag0_0 (cs').length ng0_0), (Value.slice Ag0_1 (pl').length ng0_1), (Value.slice Ag0_2 (ds').length ng0_2), .int .i64 m'] 37) cx0_4)
 go_wp2_with fail
 refine (eqTheatre_any n' m' (Value.slice Ag0_0 (cs').length ng0_0) (Value.slice Ag0_1 (pl').length ng0_1) (Value.slice Ag0_2 (ds').length ng0_2) (Value.slice Aw0_0 (cs').length nw0_0) (Value.slice Aw0_1 (pl').length nw0_1) (Value.slice Aw0_2 (ds').length nw0_2) cs' pl' ds' _ (og0.rd.below (by (repeat' (first | exact Below.refl _ _ | refine qS ?_ _ | refine qA ?_ _ | refine qD ?_ | refine qN ?_ _ | refine qT ?_ (by assumption))))) (ow0.rd.below (by (repeat' (first | exact Below.refl _ _ | refine qS ?_ _ | refine qA ?_ _ | refine qD ?_ | refine qN ?_ _ | refine qT ?_ (by assumption)))))).mono ?_
 rintro e w9 ⟨rfl, q9⟩
 clear ja0_0 ja0_1 ja0_2 ja0_3 ja0_4 jw0_0 jw0_1 jw0_2 jw0_3 jw0_4 jx0_0 jx0_1 jx0_2 jx0_3 jx0_4
 have b9 : Below w8.heap.size w8 w9 := (bl_alloc q9)
 have z9 : w8.heap.size + 1 ≤ w9.heap.size := by have := q9.size; (try simp at this); omega
 have cg0_0 := carry (b := w8.heap.size) (o := 0) (v := .int .i64 n') q9 (by simp [go_sem])
 have cg0_1 := carry (b := w8.heap.size) (o := 1) (v := (Value.slice Ag0_0 (cs').length ng0_0)) q9 (by simp [go_sem])
 have cg0_2 := carry (b := w8.heap.size) (o := 2) (v := (Value.slice Ag0_1 (pl').length ng0_1)) q9 (by simp [go_sem])
 have cg0_3 := carry (b := w8.heap.size) (o := 3) (v := (Value.slice Ag0_2 (ds').length ng0_2)) q9 (by simp [go_sem])
 have cg0_4 := carry (b := w8.heap.size) (o := 4) (v := .int .i64 m') q9 (by simp [go_sem])
 replace ca0_0 := carry b9 ca0_0
 replace ca0_1 := carry b9 ca0_1
 replace ca0_2 := carry b9 ca0_2
 replace ca0_3 := carry b9 ca0_3
 replace ca0_4 := carry b9 ca0_4
 replace cw0_0 := carry b9 cw0_0
 replace cw0_1 := carry b9 cw0_1
 replace cw0_2 := carry b9 cw0_2
 replace cw0_3 := carry b9 cw0_3
 replace cw0_4 := carry b9 cw0_4
 replace cx0_0 := carry b9 cx0_0
 replace cx0_1 := carry b9 cx0_1
 replace cx0_2 := carry b9 cx0_2
 replace cx0_3 := carry b9 cx0_3
 replace cx0_4 := carry b9 cx0_4
 replace ow0 := ow0.below b9
 replace ow1 := ow1.below b9
 replace ox0 := ox0.below b9
 replace ox1 := ox1.below b9
 replace og0 := og0.below b9
 replace og1 := og1.below b9
 replace hb : Below w.heap.size w w9 := bl_trans hb b9
 go_wp2_with fail
 refine (eqIntS_any (Value.slice Ag1_0 (ns').length ng1_0) (Value.slice Aw1_0 (ns').length nw1_0) (ns') _ (og1.rd.below (by (repeat' (first | exact Below.refl _ _ | refine qS ?_ _ | refine qA ?_ _ | refine qD ?_ | refine qN ?_ _ | refine qT ?_ (by assumption))))) (ow1.rd.below (by (repeat' (first | exact Below.refl _ _ | refine qS ?_ _ | refine qA ?_ _ | refine qD ?_ | refine qN ?_ _ | refine qT ?_ (by assumption)))))).mono ?_
 rintro e w10 ⟨rfl, q10⟩
 have b10 : Below w9.heap.size w9 w10 := q10
 have z10 : w9.heap.size + 0 ≤ w10.heap.size := by have := q10.size; (try simp at this); omega
 replace ca0_0 := carry b10 ca0_0
 replace ca0_1 := carry b10 ca0_1
 replace ca0_2 := carry b10 ca0_2
 replace ca0_3 := carry b10 ca0_3
 replace ca0_4 := carry b10 ca0_4
 replace cw0_0 := carry b10 cw0_0
 replace cw0_1 := carry b10 cw0_1
 replace cw0_2 := carry b10 cw0_2
 replace cw0_3 := carry b10 cw0_3
 replace cw0_4 := carry b10 cw0_4
 replace cx0_0 := carry b10 cx0_0
 replace cx0_1 := carry b10 cx0_1
 replace cx0_2 := carry b10 cx0_2
 replace cx0_3 := carry b10 cx0_3
 replace cx0_4 := carry b10 cx0_4
 replace cg0_0 := carry b10 cg0_0
 replace cg0_1 := carry b10 cg0_1
 replace cg0_2 := carry b10 cg0_2
 replace cg0_3 := carry b10 cg0_3
 replace cg0_4 := carry b10 cg0_4
 replace ow0 := ow0.below b10
 replace ow1 := ow1.below b10
 replace ox0 := ox0.below b10
 replace ox1 := ox1.below b10
 replace og0 := og0.below b10
 replace og1 := og1.below b10
 replace hb : Below w.heap.size w w10 := bl_trans hb b10
 go_wp2_with fail
 go_region_held3 (fun w' => w'.cell? ⟨w6.heap.size, 0, none⟩ = some (.int .i64 n) ∧ w'.cell? ⟨w6.heap.size, 1, none⟩ = some ((Value.slice Ax0_0 (cs).length nx0_0)) ∧ w'.cell? ⟨w6.heap.size, 2, none⟩ = some ((Value.slice Ax0_1 (pl).length nx0_1)) ∧ w'.cell? ⟨w6.heap.size, 3, none⟩ = some ((Value.slice Ax0_2 (ds).length nx0_2)) ∧ w'.cell? ⟨w6.heap.size, 4, none⟩ = some (.int .i64 m) ∧ w'.cell? ⟨w.heap.size, 0, none⟩ = some (.int .i64 n) ∧ w'.cell? ⟨w.heap.size, 1, none⟩ = some ((Value.slice Aa0_0 (cs).length na0_0)) ∧ w'.cell? ⟨w.heap.size, 2, none⟩ = some ((Value.slice Aa0_1 (pl).length na0_1)) ∧ w'.cell? ⟨w.heap.size, 3, none⟩ = some ((Value.slice Aa0_2 (ds).length na0_2)) ∧ w'.cell? ⟨w.heap.size, 4, none⟩ = some (.int .i64 m)) (exact ⟨cx0_0, cx0_1, cx0_2, cx0_3, cx0_4, ca0_0, ca0_1, ca0_2, ca0_3, ca0_4⟩) (first | (go_at_call 12; refine (toTheatre_any n m (Value.slice Aa0_0 (cs).length na0_0) (Value.slice Aa0_1 (pl).length na0_1) (Value.slice Aa0_2 (ds).length na0_2) cs pl ds _ (h0.below (by first | exact hb | exact hb.drew | exact below_drewN hb _)) hlen0).mono ?_; rintro e w11 ⟨vy0_1, vy0_2, vy0_3, Sy0, rfl, oy0, fy0, q11⟩; obtain ⟨⟨Ay0_0, ny0_0, rfl⟩, ⟨Ay0_1, ny0_1, rfl⟩, ⟨Ay0_2, ny0_2, rfl⟩⟩ := oy0.rd.forms; have b11 : Below w10.heap.size w10 w11 := (by first | exact q11 | exact ((Below.refl _ _).drew).trans q11 | exact (below_drewN (Below.refl _ _) _).trans q11); have z11 := b11.size; replace ca0_0 := carry b11 ca0_0; replace ca0_1 := carry b11 ca0_1; replace ca0_2 := carry b11 ca0_2; replace ca0_3 := carry b11 ca0_3; replace ca0_4 := carry b11 ca0_4; replace cw0_0 := carry b11 cw0_0; replace cw0_1 := carry b11 cw0_1; replace cw0_2 := carry b11 cw0_2; replace cw0_3 := carry b11 cw0_3; replace cw0_4 := carry b11 cw0_4; replace cx0_0 := carry b11 cx0_0; replace cx0_1 := carry b11 cx0_1; replace cx0_2 := carry b11 cx0_2; replace cx0_3 := carry b11 cx0_3; replace cx0_4 := carry b11 cx0_4; replace cg0_0 := carry b11 cg0_0; replace cg0_1 := carry b11 cg0_1; replace cg0_2 := carry b11 cg0_2; replace cg0_3 := carry b11 cg0_3; replace cg0_4 := carry b11 cg0_4; replace ow0 := ow0.below b11; replace ow1 := ow1.below b11; replace ox0 := ox0.below b11; replace ox1 := ox1.below b11; replace og0 := og0.below b11; replace og1 := og1.below b11; replace hb : Below w.heap.size w w11 := bl_trans hb b11) | (go_at_call 15; refine (eqTheatre_any n m (Value.slice Ax0_0 (cs).length nx0_0) (Value.slice Ax0_1 (pl).length nx0_1) (Value.slice Ax0_2 (ds).length nx0_2) (Value.slice Ay0_0 (cs).length ny0_0) (Value.slice Ay0_1 (pl).length ny0_1) (Value.slice Ay0_2 (ds).length ny0_2) cs pl ds _ ox0.rd oy0.rd).mono ?_; rintro e w12 ⟨rfl, q12⟩; have b12 : Below w11.heap.size w11 w12 := (by first | exact q12 | exact ((Below.refl _ _).drew).trans q12 | exact (below_drewN (Below.refl _ _) _).trans q12); have z12 := b12.size; replace ca0_0 := carry b12 ca0_0; replace ca0_1 := carry b12 ca0_1; replace ca0_2 := carry b12 ca0_2; replace ca0_3 := carry b12 ca0_3; replace ca0_4 := carry b12 ca0_4; replace cw0_0 := carry b12 cw0_0; replace cw0_1 := carry b12 cw0_1; replace cw0_2 := carry b12 cw0_2; replace cw0_3 := carry b12 cw0_3; replace cw0_4 := carry b12 cw0_4; replace cx0_0 := carry b12 cx0_0; replace cx0_1 := carry b12 cx0_1; replace cx0_2 := carry b12 cx0_2; replace cx0_3 := carry b12 cx0_3; replace cx0_4 := carry b12 cx0_4; replace cg0_0 := carry b12 cg0_0; replace cg0_1 := carry b12 cg0_1; replace cg0_2 := carry b12 cg0_2; replace cg0_3 := carry b12 cg0_3; replace cg0_4 := carry b12 cg0_4; replace ow0 := ow0.below b12; replace ow1 := ow1.below b12; replace ox0 := ox0.below b12; replace ox1 := ox1.below b12; replace og0 := og0.below b12; replace og1 := og1.below b12; replace oy0 := oy0.below b12; replace hb : Below w.heap.size w w12 := bl_trans hb b12))
 go_wp2_with fail
 refine (toActS_any a1_0 acts _ (h1.below (by first | exact hb | exact hb.alloc hb.size _ | (repeat' (first | exact Below.refl _ _ | refine qS ?_ _ | refine qA ?_ _ | refine qD ?_ | refine qN ?_ _ | refine qT ?_ (by assumption))))) hlen1).mono ?_
 rintro e w13 ⟨vy1_0, rfl, owny1, q13⟩
 have oy1 : OwL 41 cAct 3 w13 (vy1_0.ownBlock.toList) vy1_0 (acts) := OwL.mk_ owny1
 have fy1 := fresh_of owny1
 clear owny1
 obtain ⟨Ay1_0, ny1_0, rfl, _, _⟩ := oy1.rd.form
 have b13 : Below w12.heap.size w12 w13 := q13
 have z13 : w12.heap.size + 0 ≤ w13.heap.size := by have := q13.size; (try simp at this); omega
 replace ca0_0 := carry b13 ca0_0
 replace ca0_1 := carry b13 ca0_1
 replace ca0_2 := carry b13 ca0_2
 replace ca0_3 := carry b13 ca0_3
 replace ca0_4 := carry b13 ca0_4
 replace cw0_0 := carry b13 cw0_0
 replace cw0_1 := carry b13 cw0_1
 replace cw0_2 := carry b13 cw0_2
 replace cw0_3 := carry b13 cw0_3
 replace cw0_4 := carry b13 cw0_4
 replace cx0_0 := carry b13 cx0_0
 replace cx0_1 := carry b13 cx0_1
 replace cx0_2 := carry b13 cx0_2
 replace cx0_3 := carry b13 cx0_3
 replace cx0_4 := carry b13 cx0_4
 replace cg0_0 := carry b13 cg0_0
 replace cg0_1 := carry b13 cg0_1
 replace cg0_2 := carry b13 cg0_2
 replace cg0_3 := carry b13 cg0_3
 replace cg0_4 := carry b13 cg0_4
 replace ow0 := ow0.below b13
 replace ow1 := ow1.below b13
 replace ox0 := ox0.below b13
 replace ox1 := ox1.below b13
 replace og0 := og0.below b13
 replace og1 := og1.below b13
 replace hb : Below w.heap.size w w13 := bl_trans hb b13
 replace fy1 := fresh_mono (B' := w12.heap.size + 0) fy1 (by first | exact Nat.le_refl _ | (simp; done) | (simp; omega)) (Nat.le_refl _)
 go_wp2_with fail
 refine (eqActS_any (Value.slice Ax1_0 (acts).length nx1_0) (Value.slice Ay1_0 (acts).length ny1_0) (acts) _ (ox1.rd.below (by (repeat' (first | exact Below.refl _ _ | refine qS ?_ _ | refine qA ?_ _ | refine qD ?_ | refine qN ?_ _ | refine qT ?_ (by assumption))))) (oy1.rd.below (by (repeat' (first | exact Below.refl _ _ | refine qS ?_ _ | refine qA ?_ _ | refine qD ?_ | refine qN ?_ _ | refine qT ?_ (by assumption)))))).mono ?_
 rintro e w14 ⟨rfl, q14⟩
 have b14 : Below w13.heap.size w13 w14 := q14
 have z14 : w13.heap.size + 0 ≤ w14.heap.size := by have := q14.size; (try simp at this); omega
 replace ca0_0 := carry b14 ca0_0
 replace ca0_1 := carry b14 ca0_1
 replace ca0_2 := carry b14 ca0_2
 replace ca0_3 := carry b14 ca0_3
 replace ca0_4 := carry b14 ca0_4
 replace cw0_0 := carry b14 cw0_0
 replace cw0_1 := carry b14 cw0_1
 replace cw0_2 := carry b14 cw0_2
 replace cw0_3 := carry b14 cw0_3
 replace cw0_4 := carry b14 cw0_4
 replace cx0_0 := carry b14 cx0_0
 replace cx0_1 := carry b14 cx0_1
 replace cx0_2 := carry b14 cx0_2
 replace cx0_3 := carry b14 cx0_3
 replace cx0_4 := carry b14 cx0_4
 replace cg0_0 := carry b14 cg0_0
 replace cg0_1 := carry b14 cg0_1
 replace cg0_2 := carry b14 cg0_2
 replace cg0_3 := carry b14 cg0_3
 replace cg0_4 := carry b14 cg0_4
 replace ow0 := ow0.below b14
 replace ow1 := ow1.below b14
 replace ox0 := ox0.below b14
 replace ox1 := ox1.below b14
 replace og0 := og0.below b14
 replace og1 := og1.below b14
 replace oy1 := oy1.below b14
 replace hb : Below w.heap.size w w14 := bl_trans hb b14
 have hcnt : cntTheatre cs pl ds ≤ 4194304 := by
  have hz := hlen0
  unfold cntTheatre cntCompany
  unfold szTheatre szCompany at hz
  rw [plsCnt_tot]
  omega
 have hcntB : cntTheatre cs' pl' ds' ≤ 4194304 := by
  have hz := (show szTheatre cs' pl' ds' ≤ 1048576 by omega)
  unfold cntTheatre cntCompany
  unfold szTheatre szCompany at hz
  rw [plsCnt_tot]
  omega
 go_wp2_with fail
 refine (markTheatre_any n m (Value.slice Ax0_0 (cs).length nx0_0) (Value.slice Ax0_1 (pl).length nx0_1) (Value.slice Ax0_2 (ds).length nx0_2) cs pl ds 1 _ _ _ ox0 (fresh_mono fx0 (Nat.le_refl _) (by omega)) (by omega) (by omega)).mono ?_
 rintro e w15 ⟨rfl, mx0, q15⟩
 have z15 := q15.size
 replace ca0_0 := carryChg q15 ca0_0 (fresh_not fx0 (by omega))
 replace ca0_1 := carryChg q15 ca0_1 (fresh_not fx0 (by omega))
 replace ca0_2 := carryChg q15 ca0_2 (fresh_not fx0 (by omega))
 replace ca0_3 := carryChg q15 ca0_3 (fresh_not fx0 (by omega))
 replace ca0_4 := carryChg q15 ca0_4 (fresh_not fx0 (by omega))
 replace cw0_0 := carryChg q15 cw0_0 (fresh_not fx0 (by omega))
 replace cw0_1 := carryChg q15 cw0_1 (fresh_not fx0 (by omega))
 replace cw0_2 := carryChg q15 cw0_2 (fresh_not fx0 (by omega))
 replace cw0_3 := carryChg q15 cw0_3 (fresh_not fx0 (by omega))
 replace cw0_4 := carryChg q15 cw0_4 (fresh_not fx0 (by omega))
 replace cx0_0 := carryChg q15 cx0_0 (fresh_not fx0 (by omega))
 replace cx0_1 := carryChg q15 cx0_1 (fresh_not fx0 (by omega))
 replace cx0_2 := carryChg q15 cx0_2 (fresh_not fx0 (by omega))
 replace cx0_3 := carryChg q15 cx0_3 (fresh_not fx0 (by omega))
 replace cx0_4 := carryChg q15 cx0_4 (fresh_not fx0 (by omega))
 replace cg0_0 := carryChg q15 cg0_0 (fresh_not fx0 (by omega))
 replace cg0_1 := carryChg q15 cg0_1 (fresh_not fx0 (by omega))
 replace cg0_2 := carryChg q15 cg0_2 (fresh_not fx0 (by omega))
 replace cg0_3 := carryChg q15 cg0_3 (fresh_not fx0 (by omega))
 replace cg0_4 := carryChg q15 cg0_4 (fresh_not fx0 (by omega))
 replace ow0 := ow0.chg q15 (fresh_disj fw0 fx0 (by omega))
 replace ow1 := ow1.chg q15 (fresh_disj fw1 fx0 (by omega))
 replace ox1 := ox1.chg q15 (fresh_disj fx1 fx0 (by omega))
 replace og0 := og0.chg q15 (fresh_disj fg0 fx0 (by omega))
 replace og1 := og1.chg q15 (fresh_disj fg1 fx0 (by omega))
 replace hb : Below w.heap.size w w15 := Below.chg hb q15 (by omega) (fun b hb => by have := fx0.2 b hb; omega)
 go_wp2_with fail
 refine (markActS_any (Value.slice Ax1_0 (acts).length nx1_0) (acts).length _ (1 + cntTheatre cs pl ds) 0 _ ox1.1 (by omega) (by omega)).mono ?_
 rintro e w16 ⟨rfl, ownx1, q16⟩
 replace q16 := Chg.of_grown q16
 have mx1 : MkL 41 mkAct 3 w16 ((Value.slice Ax1_0 (acts).length nx1_0).ownBlock.toList) (Value.slice Ax1_0 (acts).length nx1_0) (acts).length (1 + cntTheatre cs pl ds) := ⟨own_mono ownx1 (Nat.zero_le _), rfl⟩
 clear ownx1
 have z16 := q16.size
 replace ca0_0 := carryChg q16 ca0_0 (fresh_not fx1 (by omega))
 replace ca0_1 := carryChg q16 ca0_1 (fresh_not fx1 (by omega))
 replace ca0_2 := carryChg q16 ca0_2 (fresh_not fx1 (by omega))
 replace ca0_3 := carryChg q16 ca0_3 (fresh_not fx1 (by omega))
 replace ca0_4 := carryChg q16 ca0_4 (fresh_not fx1 (by omega))
 replace cw0_0 := carryChg q16 cw0_0 (fresh_not fx1 (by omega))
 replace cw0_1 := carryChg q16 cw0_1 (fresh_not fx1 (by omega))
 replace cw0_2 := carryChg q16 cw0_2 (fresh_not fx1 (by omega))
 replace cw0_3 := carryChg q16 cw0_3 (fresh_not fx1 (by omega))
 replace cw0_4 := carryChg q16 cw0_4 (fresh_not fx1 (by omega))
 replace cx0_0 := carryChg q16 cx0_0 (fresh_not fx1 (by omega))
 replace cx0_1 := carryChg q16 cx0_1 (fresh_not fx1 (by omega))
 replace cx0_2 := carryChg q16 cx0_2 (fresh_not fx1 (by omega))
 replace cx0_3 := carryChg q16 cx0_3 (fresh_not fx1 (by omega))
 replace cx0_4 := carryChg q16 cx0_4 (fresh_not fx1 (by omega))
 replace cg0_0 := carryChg q16 cg0_0 (fresh_not fx1 (by omega))
 replace cg0_1 := carryChg q16 cg0_1 (fresh_not fx1 (by omega))
 replace cg0_2 := carryChg q16 cg0_2 (fresh_not fx1 (by omega))
 replace cg0_3 := carryChg q16 cg0_3 (fresh_not fx1 (by omega))
 replace cg0_4 := carryChg q16 cg0_4 (fresh_not fx1 (by omega))
 replace ow0 := ow0.chg q16 (fresh_disj fw0 fx1 (by omega))
 replace ow1 := ow1.chg q16 (fresh_disj fw1 fx1 (by omega))
 replace og0 := og0.chg q16 (fresh_disj fg0 fx1 (by omega))
 replace og1 := og1.chg q16 (fresh_disj fg1 fx1 (by omega))
 replace hb : Below w.heap.size w w16 := Below.chg hb q16 (by omega) (fun b hb => by have := fx1.2 b hb; omega)
 go_wp2_with fail
 refine (eqTheatre_any n' m' (Value.slice Ag0_0 (cs').length ng0_0) (Value.slice Ag0_1 (pl').length ng0_1) (Value.slice Ag0_2 (ds').length ng0_2) (Value.slice Aw0_0 (cs').length nw0_0) (Value.slice Aw0_1 (pl').length nw0_1) (Value.slice Aw0_2 (ds').length nw0_2) cs' pl' ds' _ (og0.rd.below (by (repeat' (first | exact Below.refl _ _ | refine qS ?_ _ | refine qA ?_ _ | refine qD ?_ | refine qN ?_ _ | refine qT ?_ (by assumption))))) (ow0.rd.below (by (repeat' (first | exact Below.refl _ _ | refine qS ?_ _ | refine qA ?_ _ | refine qD ?_ | refine qN ?_ _ | refine qT ?_ (by assumption)))))).mono ?_
 rintro e w17 ⟨rfl, q17⟩
 have b17 : Below w16.heap.size w16 w17 := q17
 have z17 : w16.heap.size + 0 ≤ w17.heap.size := by have := q17.size; (try simp at this); omega
 replace ca0_0 := carry b17 ca0_0
 replace ca0_1 := carry b17 ca0_1
 replace ca0_2 := carry b17 ca0_2
 replace ca0_3 := carry b17 ca0_3
 replace ca0_4 := carry b17 ca0_4
 replace cw0_0 := carry b17 cw0_0
 replace cw0_1 := carry b17 cw0_1
 replace cw0_2 := carry b17 cw0_2
 replace cw0_3 := carry b17 cw0_3
 replace cw0_4 := carry b17 cw0_4
 replace cx0_0 := carry b17 cx0_0
 replace cx0_1 := carry b17 cx0_1
 replace cx0_2 := carry b17 cx0_2
 replace cx0_3 := carry b17 cx0_3
 replace cx0_4 := carry b17 cx0_4
 replace cg0_0 := carry b17 cg0_0
 replace cg0_1 := carry b17 cg0_1
 replace cg0_2 := carry b17 cg0_2
 replace cg0_3 := carry b17 cg0_3
 replace cg0_4 := carry b17 cg0_4
 replace ow0 := ow0.below b17
 replace ow1 := ow1.below b17
 replace og0 := og0.below b17
 replace og1 := og1.below b17
 replace hb : Below w.heap.size w w17 := bl_trans hb b17
 go_wp2_with fail
 refine (eqIntS_any (Value.slice Ag1_0 (ns').length ng1_0) (Value.slice Aw1_0 (ns').length nw1_0) (ns') _ (og1.rd.below (by (repeat' (first | exact Below.refl _ _ | refine qS ?_ _ | refine qA ?_ _ | refine qD ?_ | refine qN ?_ _ | refine qT ?_ (by assumption))))) (ow1.rd.below (by (repeat' (first | exact Below.refl _ _ | refine qS ?_ _ | refine qA ?_ _ | refine qD ?_ | refine qN ?_ _ | refine qT ?_ (by assumption)))))).mono ?_
 rintro e w18 ⟨rfl, q18⟩
 have b18 : Below w17.heap.size w17 w18 := q18
 have z18 : w17.heap.size + 0 ≤ w18.heap.size := by have := q18.size; (try simp at this); omega
 replace ca0_0 := carry b18 ca0_0
 replace ca0_1 := carry b18 ca0_1
 replace ca0_2 := carry b18 ca0_2
 replace ca0_3 := carry b18 ca0_3
 replace ca0_4 := carry b18 ca0_4
 replace cw0_0 := carry b18 cw0_0
 replace cw0_1 := carry b18 cw0_1
 replace cw0_2 := carry b18 cw0_2
 replace cw0_3 := carry b18 cw0_3
 replace cw0_4 := carry b18 cw0_4
 replace cx0_0 := carry b18 cx0_0
 replace cx0_1 := carry b18 cx0_1
 replace cx0_2 := carry b18 cx0_2
 replace cx0_3 := carry b18 cx0_3
 replace cx0_4 := carry b18 cx0_4
 replace cg0_0 := carry b18 cg0_0
 replace cg0_1 := carry b18 cg0_1
 replace cg0_2 := carry b18 cg0_2
 replace cg0_3 := carry b18 cg0_3
 replace cg0_4 := carry b18 cg0_4
 replace ow0 := ow0.below b18
 replace ow1 := ow1.below b18
 replace og0 := og0.below b18
 replace og1 := og1.below b18
 replace hb : Below w.heap.size w w18 := bl_trans hb b18
 go_wp2_with fail
 refine (markTheatre_any n' m' (Value.slice Ag0_0 (cs').length ng0_0) (Value.slice Ag0_1 (pl').length ng0_1) (Value.slice Ag0_2 (ds').length ng0_2) cs' pl' ds' 1 _ _ _ og0 (fresh_mono fg0 (Nat.le_refl _) (by omega)) (by omega) (by omega)).mono ?_
 rintro e w19 ⟨rfl, mg0, q19⟩
 have z19 := q19.size
 replace ca0_0 := carryChg q19 ca0_0 (fresh_not fg0 (by omega))
 replace ca0_1 := carryChg q19 ca0_1 (fresh_not fg0 (by omega))
 replace ca0_2 := carryChg q19 ca0_2 (fresh_not fg0 (by omega))
 replace ca0_3 := carryChg q19 ca0_3 (fresh_not fg0 (by omega))
 replace ca0_4 := carryChg q19 ca0_4 (fresh_not fg0 (by omega))
 replace cw0_0 := carryChg q19 cw0_0 (fresh_not fg0 (by omega))
 replace cw0_1 := carryChg q19 cw0_1 (fresh_not fg0 (by omega))
 replace cw0_2 := carryChg q19 cw0_2 (fresh_not fg0 (by omega))
 replace cw0_3 := carryChg q19 cw0_3 (fresh_not fg0 (by omega))
 replace cw0_4 := carryChg q19 cw0_4 (fresh_not fg0 (by omega))
 replace cx0_0 := carryChg q19 cx0_0 (fresh_not fg0 (by omega))
 replace cx0_1 := carryChg q19 cx0_1 (fresh_not fg0 (by omega))
 replace cx0_2 := carryChg q19 cx0_2 (fresh_not fg0 (by omega))
 replace cx0_3 := carryChg q19 cx0_3 (fresh_not fg0 (by omega))
 replace cx0_4 := carryChg q19 cx0_4 (fresh_not fg0 (by omega))
 replace cg0_0 := carryChg q19 cg0_0 (fresh_not fg0 (by omega))
 replace cg0_1 := carryChg q19 cg0_1 (fresh_not fg0 (by omega))
 replace cg0_2 := carryChg q19 cg0_2 (fresh_not fg0 (by omega))
 replace cg0_3 := carryChg q19 cg0_3 (fresh_not fg0 (by omega))
 replace cg0_4 := carryChg q19 cg0_4 (fresh_not fg0 (by omega))
 replace ow0 := ow0.chg q19 (fresh_disj fw0 fg0 (by omega))
 replace ow1 := ow1.chg q19 (fresh_disj fw1 fg0 (by omega))
 replace og1 := og1.chg q19 (fun b hb hb' => Djg.out b hb' hb)
 replace hb : Below w.heap.size w w19 := Below.chg hb q19 (by omega) (fun b hb => by have := fg0.2 b hb; omega)
 go_wp2_with fail
 refine (markIntS_any (Value.slice Ag1_0 (ns').length ng1_0) (ns').length _ (1 + cntTheatre cs' pl' ds') 0 _ og1.1 (by omega) (by omega)).mono ?_
 rintro e w20 ⟨rfl, owng1, q20⟩
 replace q20 := Chg.of_grown q20
 have mg1 : MkL 3 mkInt 1 w20 ((Value.slice Ag1_0 (ns').length ng1_0).ownBlock.toList) (Value.slice Ag1_0 (ns').length ng1_0) (ns').length (1 + cntTheatre cs' pl' ds') := ⟨own_mono owng1 (Nat.zero_le _), rfl⟩
 clear owng1
 have z20 := q20.size
 replace ca0_0 := carryChg q20 ca0_0 (fresh_not fg1 (by omega))
 replace ca0_1 := carryChg q20 ca0_1 (fresh_not fg1 (by omega))
 replace ca0_2 := carryChg q20 ca0_2 (fresh_not fg1 (by omega))
 replace ca0_3 := carryChg q20 ca0_3 (fresh_not fg1 (by omega))
 replace ca0_4 := carryChg q20 ca0_4 (fresh_not fg1 (by omega))
 replace cw0_0 := carryChg q20 cw0_0 (fresh_not fg1 (by omega))
 replace cw0_1 := carryChg q20 cw0_1 (fresh_not fg1 (by omega))
 replace cw0_2 := carryChg q20 cw0_2 (fresh_not fg1 (by omega))
 replace cw0_3 := carryChg q20 cw0_3 (fresh_not fg1 (by omega))
 replace cw0_4 := carryChg q20 cw0_4 (fresh_not fg1 (by omega))
 replace cx0_0 := carryChg q20 cx0_0 (fresh_not fg1 (by omega))
 replace cx0_1 := carryChg q20 cx0_1 (fresh_not fg1 (by omega))
 replace cx0_2 := carryChg q20 cx0_2 (fresh_not fg1 (by omega))
 replace cx0_3 := carryChg q20 cx0_3 (fresh_not fg1 (by omega))
 replace cx0_4 := carryChg q20 cx0_4 (fresh_not fg1 (by omega))
 replace cg0_0 := carryChg q20 cg0_0 (fresh_not fg1 (by omega))
 replace cg0_1 := carryChg q20 cg0_1 (fresh_not fg1 (by omega))
 replace cg0_2 := carryChg q20 cg0_2 (fresh_not fg1 (by omega))
 replace cg0_3 := carryChg q20 cg0_3 (fresh_not fg1 (by omega))
 replace cg0_4 := carryChg q20 cg0_4 (fresh_not fg1 (by omega))
 replace ow0 := ow0.chg q20 (fresh_disj fw0 fg1 (by omega))
 replace ow1 := ow1.chg q20 (fresh_disj fw1 fg1 (by omega))
 replace mg0 := mg0.chg q20 (Djg.out)
 replace hb : Below w.heap.size w w20 := Below.chg hb q20 (by omega) (fun b hb => by have := fg1.2 b hb; omega)
 go_wp2_with fail
 refine (heldTheatre_any n' m' (Value.slice Ag0_0 (cs').length ng0_0) (Value.slice Ag0_1 (pl').length ng0_1) (Value.slice Ag0_2 (ds').length ng0_2) cs' pl' ds' 1 _ _ (mg0.below (by (repeat' (first | exact Below.refl _ _ | refine qS ?_ _ | refine qA ?_ _ | refine qD ?_ | refine qN ?_ _ | refine qT ?_ (by assumption))))) (by omega) (by omega)).mono ?_
 rintro e w21 ⟨rfl, q21⟩
 have b21 : Below w20.heap.size w20 w21 := q21
 have z21 : w20.heap.size + 0 ≤ w21.heap.size := by have := q21.size; (try simp at this); omega
 replace ca0_0 := carry b21 ca0_0
 replace ca0_1 := carry b21 ca0_1
 replace ca0_2 := carry b21 ca0_2
 replace ca0_3 := carry b21 ca0_3
 replace ca0_4 := carry b21 ca0_4
 replace cw0_0 := carry b21 cw0_0
 replace cw0_1 := carry b21 cw0_1
 replace cw0_2 := carry b21 cw0_2
 replace cw0_3 := carry b21 cw0_3
 replace cw0_4 := carry b21 cw0_4
 replace cx0_0 := carry b21 cx0_0
 replace cx0_1 := carry b21 cx0_1
 replace cx0_2 := carry b21 cx0_2
 replace cx0_3 := carry b21 cx0_3
 replace cx0_4 := carry b21 cx0_4
 replace cg0_0 := carry b21 cg0_0
 replace cg0_1 := carry b21 cg0_1
 replace cg0_2 := carry b21 cg0_2
 replace cg0_3 := carry b21 cg0_3
 replace cg0_4 := carry b21 cg0_4
 replace ow0 := ow0.below b21
 replace ow1 := ow1.below b21
 replace mg0 := mg0.below b21
 replace mg1 := mg1.below b21
 replace hb : Below w.heap.size w w21 := bl_trans hb b21
 go_wp2_with fail
 refine (heldIntS_any (Value.slice Ag1_0 (ns').length ng1_0) (ns').length (1 + cntTheatre cs' pl' ds') _ mg1.rd (by omega) (by omega)).mono ?_
 rintro e w22 ⟨rfl, q22⟩
 replace q22 := eq_below q22
 have b22 : Below w21.heap.size w21 w22 := q22
 have z22 : w21.heap.size + 0 ≤ w22.heap.size := by have := q22.size; (try simp at this); omega
 replace ca0_0 := carry b22 ca0_0
 replace ca0_1 := carry b22 ca0_1
 replace ca0_2 := carry b22 ca0_2
 replace ca0_3 := carry b22 ca0_3
 replace ca0_4 := carry b22 ca0_4
 replace cw0_0 := carry b22 cw0_0
 replace cw0_1 := carry b22 cw0_1
 replace cw0_2 := carry b22 cw0_2
 replace cw0_3 := carry b22 cw0_3
 replace cw0_4 := carry b22 cw0_4
 replace cx0_0 := carry b22 cx0_0
 replace cx0_1 := carry b22 cx0_1
 replace cx0_2 := carry b22 cx0_2
 replace cx0_3 := carry b22 cx0_3
 replace cx0_4 := carry b22 cx0_4
 replace cg0_0 := carry b22 cg0_0
 replace cg0_1 := carry b22 cg0_1
 replace cg0_2 := carry b22 cg0_2
 replace cg0_3 := carry b22 cg0_3
 replace cg0_4 := carry b22 cg0_4
 replace ow0 := ow0.below b22
 replace ow1 := ow1.below b22
 replace mg0 := mg0.below b22
 replace mg1 := mg1.below b22
 replace hb : Below w.heap.size w w22 := bl_trans hb b22
 go_wp2_with fail
 refine (toTheatre_any n m (Value.slice Aa0_0 (cs).length na0_0) (Value.slice Aa0_1 (pl).length na0_1) (Value.slice Aa0_2 (ds).length na0_2) cs pl ds _ (h0.below (by first | exact hb | exact hb.alloc hb.size _ | (repeat' (first | exact Below.refl _ _ | refine qS ?_ _ | refine qA ?_ _ | refine qD ?_ | refine qN ?_ _ | refine qT ?_ (by assumption))))) hlen0).mono ?_
 rintro e w23 ⟨vu0_1, vu0_2, vu0_3, Su0, rfl, ou0, fu0, q23⟩
 obtain ⟨⟨Au0_0, nu0_0, rfl⟩, ⟨Au0_1, nu0_1, rfl⟩, ⟨Au0_2, nu0_2, rfl⟩⟩ := ou0.rd.forms
 have b23 : Below w22.heap.size w22 w23 := q23
 have z23 : w22.heap.size + 0 ≤ w23.heap.size := by have := q23.size; (try simp at this); omega
 replace ca0_0 := carry b23 ca0_0
 replace ca0_1 := carry b23 ca0_1
 replace ca0_2 := carry b23 ca0_2
 replace ca0_3 := carry b23 ca0_3
 replace ca0_4 := carry b23 ca0_4
 replace cw0_0 := carry b23 cw0_0
 replace cw0_1 := carry b23 cw0_1
 replace cw0_2 := carry b23 cw0_2
 replace cw0_3 := carry b23 cw0_3
 replace cw0_4 := carry b23 cw0_4
 replace cx0_0 := carry b23 cx0_0
 replace cx0_1 := carry b23 cx0_1
 replace cx0_2 := carry b23 cx0_2
 replace cx0_3 := carry b23 cx0_3
 replace cx0_4 := carry b23 cx0_4
 replace cg0_0 := carry b23 cg0_0
 replace cg0_1 := carry b23 cg0_1
 replace cg0_2 := carry b23 cg0_2
 replace cg0_3 := carry b23 cg0_3
 replace cg0_4 := carry b23 cg0_4
 replace ow0 := ow0.below b23
 replace ow1 := ow1.below b23
 replace mg0 := mg0.below b23
 replace mg1 := mg1.below b23
 replace hb : Below w.heap.size w w23 := bl_trans hb b23
 replace fu0 := fresh_mono (B' := w22.heap.size + 0) fu0 (by first | exact Nat.le_refl _ | (simp; done) | (simp; omega)) (Nat.le_refl _)
 go_wp2_with fail
 refine (toActS_any a1_0 acts _ (h1.below (by first | exact hb | exact hb.alloc hb.size _ | (repeat' (first | exact Below.refl _ _ | refine qS ?_ _ | refine qA ?_ _ | refine qD ?_ | refine qN ?_ _ | refine qT ?_ (by assumption))))) hlen1).mono ?_
 rintro e w24 ⟨vu1_0, rfl, ownu1, q24⟩
 have ou1 : OwL 41 cAct 3 w24 (vu1_0.ownBlock.toList) vu1_0 (acts) := OwL.mk_ ownu1
 have fu1 := fresh_of ownu1
 clear ownu1
 obtain ⟨Au1_0, nu1_0, rfl, _, _⟩ := ou1.rd.form
 have b24 : Below w23.heap.size w23 w24 := q24
 have z24 : w23.heap.size + 0 ≤ w24.heap.size := by have := q24.size; (try simp at this); omega
 replace ca0_0 := carry b24 ca0_0
 replace ca0_1 := carry b24 ca0_1
 replace ca0_2 := carry b24 ca0_2
 replace ca0_3 := carry b24 ca0_3
 replace ca0_4 := carry b24 ca0_4
 replace cw0_0 := carry b24 cw0_0
 replace cw0_1 := carry b24 cw0_1
 replace cw0_2 := carry b24 cw0_2
 replace cw0_3 := carry b24 cw0_3
 replace cw0_4 := carry b24 cw0_4
 replace cx0_0 := carry b24 cx0_0
 replace cx0_1 := carry b24 cx0_1
 replace cx0_2 := carry b24 cx0_2
 replace cx0_3 := carry b24 cx0_3
 replace cx0_4 := carry b24 cx0_4
 replace cg0_0 := carry b24 cg0_0
 replace cg0_1 := carry b24 cg0_1
 replace cg0_2 := carry b24 cg0_2
 replace cg0_3 := carry b24 cg0_3
 replace cg0_4 := carry b24 cg0_4
 replace ow0 := ow0.below b24
 replace ow1 := ow1.below b24
 replace mg0 := mg0.below b24
 replace mg1 := mg1.below b24
 replace ou0 := ou0.below b24
 replace hb : Below w.heap.size w w24 := bl_trans hb b24
 replace fu1 := fresh_mono (B' := w23.heap.size + 0) fu1 (by first | exact Nat.le_refl _ | (simp; done) | (simp; omega)) (Nat.le_refl _)
 go_wp2_with fail
 refine (C2.out _ _ _ _ _ (ou0.rd.below (by first | exact Below.refl _ _ | (repeat' (first | exact Below.refl _ _ | refine qS ?_ _ | refine qA ?_ _ | refine qD ?_ | refine qN ?_ _ | refine qT ?_ (by assumption))))) (ou1.rd.below (by first | exact Below.refl _ _ | (repeat' (first | exact Below.refl _ _ | refine qS ?_ _ | refine qA ?_ _ | refine qD ?_ | refine qN ?_ _ | refine qT ?_ (by assumption))))) hlen0).mono ?_
 rintro e w25 ⟨vh0_1, vh0_2, vh0_3, Sh0, vh1_0, Sh1, rfl, oh0, fh0, oh1, fh1, djh, q25⟩
 obtain ⟨⟨Ah0_0, nh0_0, rfl⟩, ⟨Ah0_1, nh0_1, rfl⟩, ⟨Ah0_2, nh0_2, rfl⟩⟩ := oh0.rd.forms
 obtain ⟨Ah1_0, nh1_0, rfl, _, _⟩ := oh1.rd.form
 have eSh1 := oh1.2
 subst eSh1
 have Djh := Lib.hid djh
 clear djh
 have b25 : Below w24.heap.size w24 w25 := q25
 have z25 : w24.heap.size + 0 ≤ w25.heap.size := by have := q25.size; (try simp at this); omega
 replace ca0_0 := carry b25 ca0_0
 replace ca0_1 := carry b25 ca0_1
 replace ca0_2 := carry b25 ca0_2
 replace ca0_3 := carry b25 ca0_3
 replace ca0_4 := carry b25 ca0_4
 replace cw0_0 := carry b25 cw0_0
 replace cw0_1 := carry b25 cw0_1
 replace cw0_2 := carry b25 cw0_2
 replace cw0_3 := carry b25 cw0_3
 replace cw0_4 := carry b25 cw0_4
 replace cx0_0 := carry b25 cx0_0
 replace cx0_1 := carry b25 cx0_1
 replace cx0_2 := carry b25 cx0_2
 replace cx0_3 := carry b25 cx0_3
 replace cx0_4 := carry b25 cx0_4
 replace cg0_0 := carry b25 cg0_0
 replace cg0_1 := carry b25 cg0_1
 replace cg0_2 := carry b25 cg0_2
 replace cg0_3 := carry b25 cg0_3
 replace cg0_4 := carry b25 cg0_4
 replace ow0 := ow0.below b25
 replace ow1 := ow1.below b25
 replace mg0 := mg0.below b25
 replace mg1 := mg1.below b25
 replace ou0 := ou0.below b25
 replace ou1 := ou1.below b25
 replace hb : Below w.heap.size w w25 := bl_trans hb b25
 replace fh0 := fresh_mono (B' := w24.heap.size + 0) fh0 (by first | exact Nat.le_refl _ | (simp; done) | (simp; omega)) (Nat.le_refl _)
 replace fh1 := fresh_mono (B' := w24.heap.size + 0) fh1 (by first | exact Nat.le_refl _ | (simp; done) | (simp; omega)) (Nat.le_refl _)
 have ja0_0 := (cell_alloc (.cells #[.int .i64 n', (Value.slice Ah0_0 (cs').length nh0_0), (Value.slice Ah0_1 (pl').length nh0_1), (Value.slice Ah0_2 (ds').length nh0_2), .int .i64 m'] 37) ca0_0)
 have ja0_1 := (cell_alloc (.cells #[.int .i64 n', (Value.slice Ah0_0 (cs').length nh0_0), (Value.slice Ah0_1 (pl').length nh0_1), (Value.slice Ah0_2 (ds').length nh0_2), .int .i64 m'] 37) ca0_1)
 have ja0_2 := (cell_alloc (.cells #[.int .i64 n', (Value.slice Ah0_0 (cs').length nh0_0), (Value.slice Ah0_1 (pl').length nh0_1), (Value.slice Ah0_2 (ds').length nh0_2), .int .i64 m'] 37) ca0_2)
 have ja0_3 := (cell_alloc (.cells #[.int .i64 n', (Value.slice Ah0_0 (cs').length nh0_0), (Value.slice Ah0_1 (pl').length nh0_1), (Value.slice Ah0_2 (ds').length nh0_2), .int .i64 m'] 37) ca0_3)
 have ja0_4 := (cell_alloc (.cells #[.int .i64 n', (Value.slice Ah0_0 (cs').length nh0_0), (Value.slice Ah0_1 (pl').length nh0_1), (Value.slice Ah0_2 (ds').length nh0_2), .int .i64 m'] 37) ca0_4)
 have jw0_0 := (cell_alloc (.cells #[.int .i64 n', (Value.slice Ah0_0 (cs').length nh0_0), (Value.slice Ah0_1 (pl').length nh0_1), (Value.slice Ah0_2 (ds').length nh0_2), .int .i64 m'] 37) cw0_0)
 have jw0_1 := (cell_alloc (.cells #[.int .i64 n', (Value.slice Ah0_0 (cs').length nh0_0), (Value.slice Ah0_1 (pl').length nh0_1), (Value.slice Ah0_2 (ds').length nh0_2), .int .i64 m'] 37) cw0_1)
 have jw0_2 := (cell_alloc (.cells #[.int .i64 n', (Value.slice Ah0_0 (cs').length nh0_0), (Value.slice Ah0_1 (pl').length nh0_1), (Value.slice Ah0_2 (ds').length nh0_2), .int .i64 m'] 37) cw0_2)
 have jw0_3 := (cell_alloc (.cells #[.int .i64 n', (Value.slice Ah0_0 (cs').length nh0_0), (Value.slice Ah0_1 (pl').length nh0_1), (Value.slice Ah0_2 (ds').length nh0_2), .int .i64 m'] 37) cw0_3)
 have jw0_4 := (cell_alloc (.cells #[.int .i64 n', (Value.slice Ah0_0 (cs').length nh0_0), (Value.slice Ah0_1 (pl').length nh0_1), (Value.slice Ah0_2 (ds').length nh0_2), .int .i64 m'] 37) cw0_4)
 have jx0_0 := (cell_alloc (.cells #[.int .i64 n', (Value.slice Ah0_0 (cs').length nh0_0), (Value.slice Ah0_1 (pl').length nh0_1), (Value.slice Ah0_2 (ds').length nh0_2), .int .i64 m'] 37) cx0_0)
 have jx0_1 := (cell_alloc (.cells #[.int .i64 n', (Value.slice Ah0_0 (cs').length nh0_0), (Value.slice Ah0_1 (pl').length nh0_1), (Value.slice Ah0_2 (ds').length nh0_2), .int .i64 m'] 37) cx0_1)
 have jx0_2 := (cell_alloc (.cells #[.int .i64 n', (Value.slice Ah0_0 (cs').length nh0_0), (Value.slice Ah0_1 (pl').length nh0_1), (Value.slice Ah0_2 (ds').length nh0_2), .int .i64 m'] 37) cx0_2)
 have jx0_3 := (cell_alloc (.cells #[.int .i64 n', (Value.slice Ah0_0 (cs').length nh0_0), (Value.slice Ah0_1 (pl').length nh0_1), (Value.slice Ah0_2 (ds').length nh0_2), .int .i64 m'] 37) cx0_3)
 have jx0_4 := (cell_alloc (.cells #[.int .i64 n', (Value.slice Ah0_0 (cs').length nh0_0), (Value.slice Ah0_1 (pl').length nh0_1), (Value.slice Ah0_2 (ds').length nh0_2), .int .i64 m'] 37) cx0_4)
 have jg0_0 := (cell_alloc (.cells #[.int .i64 n', (Value.slice Ah0_0 (cs').length nh0_0), (Value.slice Ah0_1 (pl').length nh0_1), (Value.slice Ah0_2 (ds').length nh0_2), .int .i64 m'] 37) cg0_0)
 have jg0_1 := (cell_alloc (.cells #[.int .i64 n', (Value.slice Ah0_0 (cs').length nh0_0), (Value.slice Ah0_1 (pl').length nh0_1), (Value.slice Ah0_2 (ds').length nh0_2), .int .i64 m'] 37) cg0_1)
 have jg0_2 := (cell_alloc (.cells #[.int .i64 n', (Value.slice Ah0_0 (cs').length nh0_0), (Value.slice Ah0_1 (pl').length nh0_1), (Value.slice Ah0_2 (ds').length nh0_2), .int .i64 m'] 37) cg0_2)
 have jg0_3 := (cell_alloc (.cells #[.int .i64 n', (Value.slice Ah0_0 (cs').length nh0_0), (Value.slice Ah0_1 (pl').length nh0_1), (Value.slice Ah0_2 (ds').length nh0_2), .int .i64 m'] 37) cg0_3)
 have jg0_4 := (cell_alloc (.cells #[.int .i64 n', (Value.slice Ah0_0 (cs').length nh0_0), (Value.slice Ah0_1 (pl').length nh0_1), (Value.slice Ah0_2 (ds').length nh0_2), .int .i64 m'] 37) cg0_4)
 go_wp2_with fail
 refine (eqTheatre_any n' m' (Value.slice Ah0_0 (cs').length nh0_0) (Value.slice Ah0_1 (pl').length nh0_1) (Value.slice Ah0_2 (ds').length nh0_2) (Value.slice Aw0_0 (cs').length nw0_0) (Value.slice Aw0_1 (pl').length nw0_1) (Value.slice Aw0_2 (ds').length nw0_2) cs' pl' ds' _ (oh0.rd.below (by (repeat' (first | exact Below.refl _ _ | refine qS ?_ _ | refine qA ?_ _ | refine qD ?_ | refine qN ?_ _ | refine qT ?_ (by assumption))))) (ow0.rd.below (by (repeat' (first | exact Below.refl _ _ | refine qS ?_ _ | refine qA ?_ _ | refine qD ?_ | refine qN ?_ _ | refine qT ?_ (by assumption)))))).mono ?_
 rintro e w26 ⟨rfl, q26⟩
 clear ja0_0 ja0_1 ja0_2 ja0_3 ja0_4 jw0_0 jw0_1 jw0_2 jw0_3 jw0_4 jx0_0 jx0_1 jx0_2 jx0_3 jx0_4 jg0_0 jg0_1 jg0_2 jg0_3 jg0_4
 have b26 : Below w25.heap.size w25 w26 := (bl_alloc q26)
 have z26 : w25.heap.size + 1 ≤ w26.heap.size := by have := q26.size; (try simp at this); omega
 have ch0_0 := carry (b := w25.heap.size) (o := 0) (v := .int .i64 n') q26 (by simp [go_sem])
 have ch0_1 := carry (b := w25.heap.size) (o := 1) (v := (Value.slice Ah0_0 (cs').length nh0_0)) q26 (by simp [go_sem])
 have ch0_2 := carry (b := w25.heap.size) (o := 2) (v := (Value.slice Ah0_1 (pl').length nh0_1)) q26 (by simp [go_sem])
 have ch0_3 := carry (b := w25.heap.size) (o := 3) (v := (Value.slice Ah0_2 (ds').length nh0_2)) q26 (by simp [go_sem])
 have ch0_4 := carry (b := w25.heap.size) (o := 4) (v := .int .i64 m') q26 (by simp [go_sem])
 replace ca0_0 := carry b26 ca0_0
 replace ca0_1 := carry b26 ca0_1
 replace ca0_2 := carry b26 ca0_2
 replace ca0_3 := carry b26 ca0_3
 replace ca0_4 := carry b26 ca0_4
 replace cw0_0 := carry b26 cw0_0
 replace cw0_1 := carry b26 cw0_1
 replace cw0_2 := carry b26 cw0_2
 replace cw0_3 := carry b26 cw0_3
 replace cw0_4 := carry b26 cw0_4
 replace cx0_0 := carry b26 cx0_0
 replace cx0_1 := carry b26 cx0_1
 replace cx0_2 := carry b26 cx0_2
 replace cx0_3 := carry b26 cx0_3
 replace cx0_4 := carry b26 cx0_4
 replace cg0_0 := carry b26 cg0_0
 replace cg0_1 := carry b26 cg0_1
 replace cg0_2 := carry b26 cg0_2
 replace cg0_3 := carry b26 cg0_3
 replace cg0_4 := carry b26 cg0_4
 replace ow0 := ow0.below b26
 replace ow1 := ow1.below b26
 replace mg0 := mg0.below b26
 replace mg1 := mg1.below b26
 replace oh0 := oh0.below b26
 replace oh1 := oh1.below b26
 replace hb : Below w.heap.size w w26 := bl_trans hb b26
 go_wp2_with fail
 refine (eqIntS_any (Value.slice Ah1_0 (ns').length nh1_0) (Value.slice Aw1_0 (ns').length nw1_0) (ns') _ (oh1.rd.below (by (repeat' (first | exact Below.refl _ _ | refine qS ?_ _ | refine qA ?_ _ | refine qD ?_ | refine qN ?_ _ | refine qT ?_ (by assumption))))) (ow1.rd.below (by (repeat' (first | exact Below.refl _ _ | refine qS ?_ _ | refine qA ?_ _ | refine qD ?_ | refine qN ?_ _ | refine qT ?_ (by assumption)))))).mono ?_
 rintro e w27 ⟨rfl, q27⟩
 have b27 : Below w26.heap.size w26 w27 := q27
 have z27 : w26.heap.size + 0 ≤ w27.heap.size := by have := q27.size; (try simp at this); omega
 replace ca0_0 := carry b27 ca0_0
 replace ca0_1 := carry b27 ca0_1
 replace ca0_2 := carry b27 ca0_2
 replace ca0_3 := carry b27 ca0_3
 replace ca0_4 := carry b27 ca0_4
 replace cw0_0 := carry b27 cw0_0
 replace cw0_1 := carry b27 cw0_1
 replace cw0_2 := carry b27 cw0_2
 replace cw0_3 := carry b27 cw0_3
 replace cw0_4 := carry b27 cw0_4
 replace cx0_0 := carry b27 cx0_0
 replace cx0_1 := carry b27 cx0_1
 replace cx0_2 := carry b27 cx0_2
 replace cx0_3 := carry b27 cx0_3
 replace cx0_4 := carry b27 cx0_4
 replace cg0_0 := carry b27 cg0_0
 replace cg0_1 := carry b27 cg0_1
 replace cg0_2 := carry b27 cg0_2
 replace cg0_3 := carry b27 cg0_3
 replace cg0_4 := carry b27 cg0_4
 replace ch0_0 := carry b27 ch0_0
 replace ch0_1 := carry b27 ch0_1
 replace ch0_2 := carry b27 ch0_2
 replace ch0_3 := carry b27 ch0_3
 replace ch0_4 := carry b27 ch0_4
 replace ow0 := ow0.below b27
 replace ow1 := ow1.below b27
 replace mg0 := mg0.below b27
 replace mg1 := mg1.below b27
 replace oh0 := oh0.below b27
 replace oh1 := oh1.below b27
 replace hb : Below w.heap.size w w27 := bl_trans hb b27
 go_wp2_with fail
 refine (heldTheatre_any n' m' (Value.slice Ag0_0 (cs').length ng0_0) (Value.slice Ag0_1 (pl').length ng0_1) (Value.slice Ag0_2 (ds').length ng0_2) cs' pl' ds' 1 _ _ (mg0.below (by (repeat' (first | exact Below.refl _ _ | refine qS ?_ _ | refine qA ?_ _ | refine qD ?_ | refine qN ?_ _ | refine qT ?_ (by assumption))))) (by omega) (by omega)).mono ?_
 rintro e w28 ⟨rfl, q28⟩
 have b28 : Below w27.heap.size w27 w28 := q28
 have z28 : w27.heap.size + 0 ≤ w28.heap.size := by have := q28.size; (try simp at this); omega
 replace ca0_0 := carry b28 ca0_0
 replace ca0_1 := carry b28 ca0_1
 replace ca0_2 := carry b28 ca0_2
 replace ca0_3 := carry b28 ca0_3
 replace ca0_4 := carry b28 ca0_4
 replace cw0_0 := carry b28 cw0_0
 replace cw0_1 := carry b28 cw0_1
 replace cw0_2 := carry b28 cw0_2
 replace cw0_3 := carry b28 cw0_3
 replace cw0_4 := carry b28 cw0_4
 replace cx0_0 := carry b28 cx0_0
 replace cx0_1 := carry b28 cx0_1
 replace cx0_2 := carry b28 cx0_2
 replace cx0_3 := carry b28 cx0_3
 replace cx0_4 := carry b28 cx0_4
 replace cg0_0 := carry b28 cg0_0
 replace cg0_1 := carry b28 cg0_1
 replace cg0_2 := carry b28 cg0_2
 replace cg0_3 := carry b28 cg0_3
 replace cg0_4 := carry b28 cg0_4
 replace ch0_0 := carry b28 ch0_0
 replace ch0_1 := carry b28 ch0_1
 replace ch0_2 := carry b28 ch0_2
 replace ch0_3 := carry b28 ch0_3
 replace ch0_4 := carry b28 ch0_4
 replace ow0 := ow0.below b28
 replace ow1 := ow1.below b28
 replace mg0 := mg0.below b28
 replace mg1 := mg1.below b28
 replace oh0 := oh0.below b28
 replace oh1 := oh1.below b28
 replace hb : Below w.heap.size w w28 := bl_trans hb b28
 go_wp2_with fail
 refine (heldIntS_any (Value.slice Ag1_0 (ns').length ng1_0) (ns').length (1 + cntTheatre cs' pl' ds') _ mg1.rd (by omega) (by omega)).mono ?_
 rintro e w29 ⟨rfl, q29⟩
 replace q29 := eq_below q29
 have b29 : Below w28.heap.size w28 w29 := q29
 have z29 : w28.heap.size + 0 ≤ w29.heap.size := by have := q29.size; (try simp at this); omega
 replace ca0_0 := carry b29 ca0_0
 replace ca0_1 := carry b29 ca0_1
 replace ca0_2 := carry b29 ca0_2
 replace ca0_3 := carry b29 ca0_3
 replace ca0_4 := carry b29 ca0_4
 replace cw0_0 := carry b29 cw0_0
 replace cw0_1 := carry b29 cw0_1
 replace cw0_2 := carry b29 cw0_2
 replace cw0_3 := carry b29 cw0_3
 replace cw0_4 := carry b29 cw0_4
 replace cx0_0 := carry b29 cx0_0
 replace cx0_1 := carry b29 cx0_1
 replace cx0_2 := carry b29 cx0_2
 replace cx0_3 := carry b29 cx0_3
 replace cx0_4 := carry b29 cx0_4
 replace cg0_0 := carry b29 cg0_0
 replace cg0_1 := carry b29 cg0_1
 replace cg0_2 := carry b29 cg0_2
 replace cg0_3 := carry b29 cg0_3
 replace cg0_4 := carry b29 cg0_4
 replace ch0_0 := carry b29 ch0_0
 replace ch0_1 := carry b29 ch0_1
 replace ch0_2 := carry b29 ch0_2
 replace ch0_3 := carry b29 ch0_3
 replace ch0_4 := carry b29 ch0_4
 replace ow0 := ow0.below b29
 replace ow1 := ow1.below b29
 replace mg0 := mg0.below b29
 replace mg1 := mg1.below b29
 replace oh0 := oh0.below b29
 replace oh1 := oh1.below b29
 replace hb : Below w.heap.size w w29 := bl_trans hb b29
 go_wp2_with fail
 go_ret
 exact ⟨rfl, hb⟩
set_option maxRecDepth 100000 in
set_option maxHeartbeats 1000000 in
theorem fnExactRunActs_lifted (os : Os) (started : os.Started) (H : Type) (enc : TypeId × Value → H) :
  ReturnsInHanded {} Tryz.checked os 4 .any (Rows.fnExactRunActsSpec.pre6 enc Tryz.prog Tryz.f4 Rows.fnExactRunActsRow.domain false) (Rows.fnExactRunActsSpec.post enc Tryz.prog Tryz.f4 false true false false) := by
 refine returnsInHanded_of_change (C := Tryz.checked) tryOwn started (by kernel_rfl) Tryz.func4
  (ChangeSpec.witness6 (enc := enc) (C := Tryz.checked) false ⟨#[], #[.agg #[.int .i64 0, .slice none 0 0, .slice none 0 0, .slice none 0 0, .int .i64 0], .slice none 0 0], []⟩ 12 (by kernel_rfl) (by kernel_rfl) (by kernel_rfl) (by kernel_rfl)) ?_
 intro W base args ds gs before hval0 hW hcnd _
 have hval : ∀ (j : Nat) t v, Tryz.f4.params[j]? = some t → args[j]? = some v → Value.okWide Tryz.prog W .any base t v := hval0
 have hW' := hW
 obtain ⟨p, q, hA0, hV, rfl, hfz, hnd⟩ := hW
 have hA : DataW.TrodAll enc Tryz.prog W 0 (fun _ => true) true Tryz.f4.params.toList args.toList ds p := hA0
 rw [Tryz.params4] at hA hval
 obtain ⟨v0, vs0, d0, ds0, p0, q0, hargs, rfl, rfl, h0, r0⟩ := trodAll_cons hA
 obtain ⟨v1, vs1, d1, ds1, p1, q1, rfl, rfl, rfl, h1, r1⟩ := trodAll_cons r0
 obtain ⟨rfl, rfl, rfl⟩ := trodAll_nil r1
 obtain rfl : args = #[v0, v1] := by cases args; simp_all
 obtain ⟨rfl, rfl⟩ := trodVars_none hV
 have e0 := h0
 have lt0 : ∀ x ∈ p0, x.block < W.heap.size := by obtain ⟨m, hm⟩ := e0; exact DataW.trod_lt m _ _ _ hm
 have ok0 := hval 0 28 v0 rfl rfl
 have e1 := h1
 have lt1 : ∀ x ∈ p1, x.block < W.heap.size := by obtain ⟨m, hm⟩ := e1; exact DataW.trod_lt m _ _ _ hm
 have ok1 := hval 1 46 v1 rfl rfl
 clear hA0 hval0 hval
 obtain ⟨⟨⟨p0, q0, s0⟩, t0, m0⟩, rfl, hq0⟩ := arg_struct Tryz.underlying28 ok0 h0 opens_lawsTheatre
 obtain ⟨⟨_, ⟨d0, hd0, _⟩, hpp0⟩, ⟨y0, hy0, _⟩, wm0⟩ := hq0
 obtain ⟨k0, hk0, _⟩ := pls_of hpp0
 have h0' : RdTheatre W q0 s0 t0 d0 k0 y0 := ⟨⟨hd0, hk0⟩, hy0⟩
 obtain ⟨xs1, h1', _⟩ := arg_slice Tryz.underlying46 ok1 h1 (opens_slice (size := 3) Tryz.underlying46 (by kernel_rfl) (by omega) cAct_len opens_lawsAct)
 refine (lawRunActs_any p0 m0 q0 s0 t0 d0 k0 y0 v1 xs1 W h0' h1').mono fun e W' ⟨he, bel⟩ => ?_
 subst he
 exact ⟨_, rfl, _, _, _, [], _, [], hW', trodAll_mk1 (shut_bool Tryz.underlying4 _), (trodAll_cons_mk (Below.trod tryLaid (by kernel_rfl) (of_decide_eq_true (by kernel_rfl)) e0 bel lt0) (trodAll_cons_mk (Below.trod tryLaid (by kernel_rfl) (of_decide_eq_true (by kernel_rfl)) e1 bel lt1) trodAll_mk0)), rfl, bel.frame _, fun h => by cases h⟩
theorem fnExactRunActs_holds : Rows.FnExactRunActsSaid :=
 OpenClaim.holds_of_wide 4 Tryz.f4 rfl rfl rfl rfl rfl rfl rfl ⟨rfl, rfl, rfl, rfl, rfl⟩ rfl rfl rfl rfl rfl (by kernel_rfl) Tryz.func4 (by kernel_rfl)
  (of_decide_eq_true (by kernel_rfl)) (by unfold Func.isWrapper; first | (rw [if_pos (by decide +kernel)]; kernel_rfl) | (rw [if_neg (by decide +kernel)]; exact ⟨rfl, rfl⟩))
  (fun os started H enc _ => fnExactRunActs_lifted os started H enc)
#print axioms fnExactRunActs_holds
end Go.Proofs.YtlhdeojkpmpecaaGreat
