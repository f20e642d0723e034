/- FnExactFormatTheatre: for every input the program's FormatTheatre returns what the reference's returns. No condition. Written by a program (exact2.py). -/
import Derived.Test.YtdhmhgjjppeodaaGreatDoorCards
import Derived.Test.YtdhmhgjjppeodaaGreatDoorTie
import Derived.SevenTiedAt
import Derived.LaidMore
import Derived.MakeChecks
import Derived.OpenShut
import Derived.Deep.RegionHeld3
import Derived.Deep.DeepCutAuto
import Derived.Test.YtdhmhgjjppeodaaGreatDoorBdH16x3
import Derived.Test.YtdhmhgjjppeodaaGreatDoorC2
import Derived.Test.YtdhmhgjjppeodaaGreatDoorBdA1x8
import Derived.Test.YtdhmhgjjppeodaaGreatDoorO3
import Derived.Test.YtdhmhgjjppeodaaGreatDoorO4
namespace Go.Proofs.YtdhmhgjjppeodaaGreatDoor
open Go.ChangeShapes Go.WideShapes Go.ChangeAt Go.RowKit
set_option maxHeartbeats 8000000 in
set_option maxRecDepth 100000 in
theorem lawFormatTheatre_any (n m : Int) (a0_0 a0_1 a0_2 : Value) (cs : List RCross) (pl : List RPl) (ds : List Int) (w : World) (h0 : RdTheatre w a0_0 a0_1 a0_2 cs pl ds) (ht : TabOk w) :
  Calls Tryz.prog 4 #[.agg #[.int .i64 n, a0_0, a0_1, a0_2, .int .i64 m]] w fun e w' => e = .returned (.bool true) ∧ Below w.heap.size w w' := by
 obtain ⟨⟨Aa0_0, na0_0, rfl⟩, ⟨Aa0_1, na0_1, rfl⟩, ⟨Aa0_2, na0_2, rfl⟩⟩ := h0.forms
 have hres := fmtT_len n m cs pl ds
 have C1 := Lib.hid (fun W v1 v2 v3 hr => specFormatTheatre_any n m v1 v2 v3 cs pl ds W hr)
 have C2 := Lib.hid (fun W v1 v2 v3 hr htw => implFormatTheatre_any n m v1 v2 v3 cs pl ds W hr htw)
 generalize fmtT n m cs pl ds = res at *
 go_enter Tryz.func4, Tryz.ntmps4
 go_wp2_with fail
 refine (szTheatre_any n m (Value.slice Aa0_0 (cs).length na0_0) (Value.slice Aa0_1 (pl).length na0_1) (Value.slice Aa0_2 (ds).length na0_2) cs pl ds 1048576 _ (h0.below (by (repeat' (first | exact Below.refl _ _ | refine qS ?_ _ | refine qA ?_ _ | refine qD ?_ | refine qN ?_ _ | refine qT ?_ (by assumption))))) (by omega)).mono ?_
 rintro e w1 ⟨r0, rfl, q1, hr0, ht0⟩
 have Ht0 := Lib.hid ht0
 clear ht0
 have b1 : Below w.heap.size w w1 := (bl_alloc q1)
 have z1 : w.heap.size + 1 ≤ w1.heap.size := by have := q1.size; (try simp at this); omega
 have ca0_0 := carry (b := w.heap.size) (o := 0) (v := .int .i64 n) q1 (by simp [go_sem])
 have ca0_1 := carry (b := w.heap.size) (o := 1) (v := (Value.slice Aa0_0 (cs).length na0_0)) q1 (by simp [go_sem])
 have ca0_2 := carry (b := w.heap.size) (o := 2) (v := (Value.slice Aa0_1 (pl).length na0_1)) q1 (by simp [go_sem])
 have ca0_3 := carry (b := w.heap.size) (o := 3) (v := (Value.slice Aa0_2 (ds).length na0_2)) q1 (by simp [go_sem])
 have ca0_4 := carry (b := w.heap.size) (o := 4) (v := .int .i64 m) q1 (by simp [go_sem])
 have hb : Below w.heap.size w w1 := b1
 by_cases hneg0 : r0 < 0
 ·go_wp2_with fail
  go_ret
  exact ⟨rfl, hb⟩
 have hlen0 : szTheatre cs pl ds ≤ 1048576 := by have := Ht0.out (by omega); omega
 go_wp2_with fail
 refine (toTheatre_any n m (Value.slice Aa0_0 (cs).length na0_0) (Value.slice Aa0_1 (pl).length na0_1) (Value.slice Aa0_2 (ds).length na0_2) cs pl ds _ (h0.below (by first | exact hb | exact hb.alloc hb.size _ | (repeat' (first | exact Below.refl _ _ | refine qS ?_ _ | refine qA ?_ _ | refine qD ?_ | refine qN ?_ _ | refine qT ?_ (by assumption))))) hlen0).mono ?_
 rintro e w2 ⟨vs0_1, vs0_2, vs0_3, Ss0, rfl, os0, fs0, q2⟩
 obtain ⟨⟨As0_0, ns0_0, rfl⟩, ⟨As0_1, ns0_1, rfl⟩, ⟨As0_2, ns0_2, rfl⟩⟩ := os0.rd.forms
 have b2 : Below w1.heap.size w1 w2 := q2
 have z2 : w1.heap.size + 0 ≤ w2.heap.size := by have := q2.size; (try simp at this); omega
 replace ca0_0 := carry b2 ca0_0
 replace ca0_1 := carry b2 ca0_1
 replace ca0_2 := carry b2 ca0_2
 replace ca0_3 := carry b2 ca0_3
 replace ca0_4 := carry b2 ca0_4
 replace hb : Below w.heap.size w w2 := bl_trans hb b2
 replace fs0 := fresh_mono (B' := w1.heap.size + 0) fs0 (by first | exact Nat.le_refl _ | (simp; done) | (simp; omega)) (Nat.le_refl _)
 go_wp2_with fail
 refine (C1.out _ _ _ _ (os0.rd.below (by first | exact Below.refl _ _ | (repeat' (first | exact Below.refl _ _ | refine qS ?_ _ | refine qA ?_ _ | refine qD ?_ | refine qN ?_ _ | refine qT ?_ (by assumption)))))).mono ?_
 rintro e w3 ⟨vw0_0, rfl, ownw0, q3⟩
 have ow0 : OwL 9 cStr 1 w3 (vw0_0.ownBlock.toList) vw0_0 (res) := OwL.mk_ ownw0
 have fw0 := fresh_of ownw0
 clear ownw0
 obtain ⟨Aw0_0, nw0_0, rfl, _, _⟩ := ow0.rd.form
 have b3 : Below w2.heap.size w2 w3 := q3
 have z3 : w2.heap.size + 0 ≤ w3.heap.size := by have := q3.size; (try simp at this); omega
 replace ca0_0 := carry b3 ca0_0
 replace ca0_1 := carry b3 ca0_1
 replace ca0_2 := carry b3 ca0_2
 replace ca0_3 := carry b3 ca0_3
 replace ca0_4 := carry b3 ca0_4
 replace os0 := os0.below b3
 replace hb : Below w.heap.size w w3 := bl_trans hb b3
 replace fw0 := fresh_mono (B' := w2.heap.size + 0) fw0 (by first | exact Nat.le_refl _ | (simp; done) | (simp; omega)) (Nat.le_refl _)
 go_wp2_with fail
 refine (toTheatre_any n m (Value.slice Aa0_0 (cs).length na0_0) (Value.slice Aa0_1 (pl).length na0_1) (Value.slice Aa0_2 (ds).length na0_2) cs pl ds _ (h0.below (by first | exact hb | exact hb.alloc hb.size _ | (repeat' (first | exact Below.refl _ _ | refine qS ?_ _ | refine qA ?_ _ | refine qD ?_ | refine qN ?_ _ | refine qT ?_ (by assumption))))) hlen0).mono ?_
 rintro e w4 ⟨vx0_1, vx0_2, vx0_3, Sx0, rfl, ox0, fx0, q4⟩
 obtain ⟨⟨Ax0_0, nx0_0, rfl⟩, ⟨Ax0_1, nx0_1, rfl⟩, ⟨Ax0_2, nx0_2, rfl⟩⟩ := ox0.rd.forms
 have b4 : Below w3.heap.size w3 w4 := q4
 have z4 : w3.heap.size + 0 ≤ w4.heap.size := by have := q4.size; (try simp at this); omega
 replace ca0_0 := carry b4 ca0_0
 replace ca0_1 := carry b4 ca0_1
 replace ca0_2 := carry b4 ca0_2
 replace ca0_3 := carry b4 ca0_3
 replace ca0_4 := carry b4 ca0_4
 replace ow0 := ow0.below b4
 replace hb : Below w.heap.size w w4 := bl_trans hb b4
 replace fx0 := fresh_mono (B' := w3.heap.size + 0) fx0 (by first | exact Nat.le_refl _ | (simp; done) | (simp; omega)) (Nat.le_refl _)
 have ja0_0 := (cell_alloc (.cells #[.int .i64 n, (Value.slice Ax0_0 (cs).length nx0_0), (Value.slice Ax0_1 (pl).length nx0_1), (Value.slice Ax0_2 (ds).length nx0_2), .int .i64 m] 30) ca0_0)
 have ja0_1 := (cell_alloc (.cells #[.int .i64 n, (Value.slice Ax0_0 (cs).length nx0_0), (Value.slice Ax0_1 (pl).length nx0_1), (Value.slice Ax0_2 (ds).length nx0_2), .int .i64 m] 30) ca0_1)
 have ja0_2 := (cell_alloc (.cells #[.int .i64 n, (Value.slice Ax0_0 (cs).length nx0_0), (Value.slice Ax0_1 (pl).length nx0_1), (Value.slice Ax0_2 (ds).length nx0_2), .int .i64 m] 30) ca0_2)
 have ja0_3 := (cell_alloc (.cells #[.int .i64 n, (Value.slice Ax0_0 (cs).length nx0_0), (Value.slice Ax0_1 (pl).length nx0_1), (Value.slice Ax0_2 (ds).length nx0_2), .int .i64 m] 30) ca0_3)
 have ja0_4 := (cell_alloc (.cells #[.int .i64 n, (Value.slice Ax0_0 (cs).length nx0_0), (Value.slice Ax0_1 (pl).length nx0_1), (Value.slice Ax0_2 (ds).length nx0_2), .int .i64 m] 30) ca0_4)
 go_wp2_with fail
 refine (C2.out _ _ _ _ (ox0.rd.below (by first | exact Below.refl _ _ | (repeat' (first | exact Below.refl _ _ | refine qS ?_ _ | refine qA ?_ _ | refine qD ?_ | refine qN ?_ _ | refine qT ?_ (by assumption))))) (ht.below (by first | exact hb | exact hb.alloc hb.size _ | (repeat' (first | exact Below.refl _ _ | refine qS ?_ _ | refine qA ?_ _ | refine qD ?_ | refine qN ?_ _ | refine qT ?_ (by assumption)))))).mono ?_
 rintro e w5 ⟨vg0_0, rfl, owng0, q5⟩
 clear ja0_0 ja0_1 ja0_2 ja0_3 ja0_4
 have og0 : OwL 9 cStr 1 w5 (vg0_0.ownBlock.toList) vg0_0 (res) := OwL.mk_ owng0
 have fg0 := fresh_of owng0
 clear owng0
 obtain ⟨Ag0_0, ng0_0, rfl, _, _⟩ := og0.rd.form
 have b5 : Below w4.heap.size w4 w5 := (bl_alloc q5)
 have z5 : w4.heap.size + 1 ≤ w5.heap.size := by have := q5.size; (try simp at this); omega
 have cx0_0 := carry (b := w4.heap.size) (o := 0) (v := .int .i64 n) q5 (by simp [go_sem])
 have cx0_1 := carry (b := w4.heap.size) (o := 1) (v := (Value.slice Ax0_0 (cs).length nx0_0)) q5 (by simp [go_sem])
 have cx0_2 := carry (b := w4.heap.size) (o := 2) (v := (Value.slice Ax0_1 (pl).length nx0_1)) q5 (by simp [go_sem])
 have cx0_3 := carry (b := w4.heap.size) (o := 3) (v := (Value.slice Ax0_2 (ds).length nx0_2)) q5 (by simp [go_sem])
 have cx0_4 := carry (b := w4.heap.size) (o := 4) (v := .int .i64 m) q5 (by simp [go_sem])
 replace ca0_0 := carry b5 ca0_0
 replace ca0_1 := carry b5 ca0_1
 replace ca0_2 := carry b5 ca0_2
 replace ca0_3 := carry b5 ca0_3
 replace ca0_4 := carry b5 ca0_4
 replace ow0 := ow0.below b5
 replace ox0 := ox0.below b5
 replace hb : Below w.heap.size w w5 := bl_trans hb b5
 replace fg0 := fresh_mono (B' := w4.heap.size + 1) fg0 (by first | exact Nat.le_refl _ | (simp; done) | (simp; omega)) (Nat.le_refl _)
 go_wp2_with fail
 refine (eqStringS_any (Value.slice Ag0_0 (res).length ng0_0) (Value.slice Aw0_0 (res).length nw0_0) (res) _ (og0.rd.below (by (repeat' (first | exact Below.refl _ _ | refine qS ?_ _ | refine qA ?_ _ | refine qD ?_ | refine qN ?_ _ | refine qT ?_ (by assumption))))) (ow0.rd.below (by (repeat' (first | exact Below.refl _ _ | refine qS ?_ _ | refine qA ?_ _ | refine qD ?_ | refine qN ?_ _ | refine qT ?_ (by assumption)))))).mono ?_
 rintro e w6 ⟨rfl, q6⟩
 have b6 : Below w5.heap.size w5 w6 := q6
 have z6 : w5.heap.size + 0 ≤ w6.heap.size := by have := q6.size; (try simp at this); omega
 replace ca0_0 := carry b6 ca0_0
 replace ca0_1 := carry b6 ca0_1
 replace ca0_2 := carry b6 ca0_2
 replace ca0_3 := carry b6 ca0_3
 replace ca0_4 := carry b6 ca0_4
 replace cx0_0 := carry b6 cx0_0
 replace cx0_1 := carry b6 cx0_1
 replace cx0_2 := carry b6 cx0_2
 replace cx0_3 := carry b6 cx0_3
 replace cx0_4 := carry b6 cx0_4
 replace ow0 := ow0.below b6
 replace ox0 := ox0.below b6
 replace og0 := og0.below b6
 replace hb : Below w.heap.size w w6 := bl_trans hb b6
 go_wp2_with fail
 go_region_held3 (fun w' => w'.cell? ⟨w4.heap.size, 0, none⟩ = some (.int .i64 n) ∧ w'.cell? ⟨w4.heap.size, 1, none⟩ = some ((Value.slice Ax0_0 (cs).length nx0_0)) ∧ w'.cell? ⟨w4.heap.size, 2, none⟩ = some ((Value.slice Ax0_1 (pl).length nx0_1)) ∧ w'.cell? ⟨w4.heap.size, 3, none⟩ = some ((Value.slice Ax0_2 (ds).length nx0_2)) ∧ w'.cell? ⟨w4.heap.size, 4, none⟩ = some (.int .i64 m) ∧ w'.cell? ⟨w.heap.size, 0, none⟩ = some (.int .i64 n) ∧ w'.cell? ⟨w.heap.size, 1, none⟩ = some ((Value.slice Aa0_0 (cs).length na0_0)) ∧ w'.cell? ⟨w.heap.size, 2, none⟩ = some ((Value.slice Aa0_1 (pl).length na0_1)) ∧ w'.cell? ⟨w.heap.size, 3, none⟩ = some ((Value.slice Aa0_2 (ds).length na0_2)) ∧ w'.cell? ⟨w.heap.size, 4, none⟩ = some (.int .i64 m)) (exact ⟨cx0_0, cx0_1, cx0_2, cx0_3, cx0_4, ca0_0, ca0_1, ca0_2, ca0_3, ca0_4⟩) (first | (go_at_call 17; refine (toTheatre_any n m (Value.slice Aa0_0 (cs).length na0_0) (Value.slice Aa0_1 (pl).length na0_1) (Value.slice Aa0_2 (ds).length na0_2) cs pl ds _ (h0.below (by first | exact hb | exact hb.drew | exact below_drewN hb _)) hlen0).mono ?_; rintro e w7 ⟨vy0_1, vy0_2, vy0_3, Sy0, rfl, oy0, fy0, q7⟩; obtain ⟨⟨Ay0_0, ny0_0, rfl⟩, ⟨Ay0_1, ny0_1, rfl⟩, ⟨Ay0_2, ny0_2, rfl⟩⟩ := oy0.rd.forms; have b7 : Below w6.heap.size w6 w7 := (by first | exact q7 | exact ((Below.refl _ _).drew).trans q7 | exact (below_drewN (Below.refl _ _) _).trans q7); have z7 := b7.size; replace ca0_0 := carry b7 ca0_0; replace ca0_1 := carry b7 ca0_1; replace ca0_2 := carry b7 ca0_2; replace ca0_3 := carry b7 ca0_3; replace ca0_4 := carry b7 ca0_4; replace cx0_0 := carry b7 cx0_0; replace cx0_1 := carry b7 cx0_1; replace cx0_2 := carry b7 cx0_2; replace cx0_3 := carry b7 cx0_3; replace cx0_4 := carry b7 cx0_4; replace ow0 := ow0.below b7; replace ox0 := ox0.below b7; replace og0 := og0.below b7; replace hb : Below w.heap.size w w7 := bl_trans hb b7) | (go_at_call 19; refine (eqTheatre_any n m (Value.slice Ax0_0 (cs).length nx0_0) (Value.slice Ax0_1 (pl).length nx0_1) (Value.slice Ax0_2 (ds).length nx0_2) (Value.slice Ay0_0 (cs).length ny0_0) (Value.slice Ay0_1 (pl).length ny0_1) (Value.slice Ay0_2 (ds).length ny0_2) cs pl ds _ ox0.rd oy0.rd).mono ?_; rintro e w8 ⟨rfl, q8⟩; have b8 : Below w7.heap.size w7 w8 := (by first | exact q8 | exact ((Below.refl _ _).drew).trans q8 | exact (below_drewN (Below.refl _ _) _).trans q8); have z8 := b8.size; replace ca0_0 := carry b8 ca0_0; replace ca0_1 := carry b8 ca0_1; replace ca0_2 := carry b8 ca0_2; replace ca0_3 := carry b8 ca0_3; replace ca0_4 := carry b8 ca0_4; replace cx0_0 := carry b8 cx0_0; replace cx0_1 := carry b8 cx0_1; replace cx0_2 := carry b8 cx0_2; replace cx0_3 := carry b8 cx0_3; replace cx0_4 := carry b8 cx0_4; replace ow0 := ow0.below b8; replace ox0 := ox0.below b8; replace og0 := og0.below b8; replace oy0 := oy0.below b8; replace hb : Below w.heap.size w w8 := bl_trans hb b8))
 go_wp2_with fail
 refine (markTheatre_any n m (Value.slice Ax0_0 (cs).length nx0_0) (Value.slice Ax0_1 (pl).length nx0_1) (Value.slice Ax0_2 (ds).length nx0_2) cs pl ds 1 _ _ _ ox0 (fresh_mono fx0 (Nat.le_refl _) (by omega)) (by omega) (by omega)).mono ?_
 rintro e w9 ⟨rfl, mx0, q9⟩
 have z9 := q9.size
 replace ca0_0 := carryChg q9 ca0_0 (fresh_not fx0 (by omega))
 replace ca0_1 := carryChg q9 ca0_1 (fresh_not fx0 (by omega))
 replace ca0_2 := carryChg q9 ca0_2 (fresh_not fx0 (by omega))
 replace ca0_3 := carryChg q9 ca0_3 (fresh_not fx0 (by omega))
 replace ca0_4 := carryChg q9 ca0_4 (fresh_not fx0 (by omega))
 replace cx0_0 := carryChg q9 cx0_0 (fresh_not fx0 (by omega))
 replace cx0_1 := carryChg q9 cx0_1 (fresh_not fx0 (by omega))
 replace cx0_2 := carryChg q9 cx0_2 (fresh_not fx0 (by omega))
 replace cx0_3 := carryChg q9 cx0_3 (fresh_not fx0 (by omega))
 replace cx0_4 := carryChg q9 cx0_4 (fresh_not fx0 (by omega))
 replace ow0 := ow0.chg q9 (fresh_disj fw0 fx0 (by omega))
 replace og0 := og0.chg q9 (fresh_disj fg0 fx0 (by omega))
 replace hb : Below w.heap.size w w9 := Below.chg hb q9 (by omega) (fun b hb => by have := fx0.2 b hb; omega)
 go_wp2_with fail
 refine (eqStringS_any (Value.slice Ag0_0 (res).length ng0_0) (Value.slice Aw0_0 (res).length nw0_0) (res) _ (og0.rd.below (by (repeat' (first | exact Below.refl _ _ | refine qS ?_ _ | refine qA ?_ _ | refine qD ?_ | refine qN ?_ _ | refine qT ?_ (by assumption))))) (ow0.rd.below (by (repeat' (first | exact Below.refl _ _ | refine qS ?_ _ | refine qA ?_ _ | refine qD ?_ | refine qN ?_ _ | refine qT ?_ (by assumption)))))).mono ?_
 rintro e w10 ⟨rfl, q10⟩
 have b10 : Below w9.heap.size w9 w10 := q10
 have z10 : w9.heap.size + 0 ≤ w10.heap.size := by have := q10.size; (try simp at this); omega
 replace ca0_0 := carry b10 ca0_0
 replace ca0_1 := carry b10 ca0_1
 replace ca0_2 := carry b10 ca0_2
 replace ca0_3 := carry b10 ca0_3
 replace ca0_4 := carry b10 ca0_4
 replace cx0_0 := carry b10 cx0_0
 replace cx0_1 := carry b10 cx0_1
 replace cx0_2 := carry b10 cx0_2
 replace cx0_3 := carry b10 cx0_3
 replace cx0_4 := carry b10 cx0_4
 replace ow0 := ow0.below b10
 replace og0 := og0.below b10
 replace hb : Below w.heap.size w w10 := bl_trans hb b10
 go_wp2_with fail
 refine (markStringS_any (Value.slice Ag0_0 (res).length ng0_0) (res).length _ 1 0 _ og0.1 (by omega) (by omega)).mono ?_
 rintro e w11 ⟨rfl, owng0, q11⟩
 replace q11 := Chg.of_grown q11
 have mg0 : MkL 9 mkString 1 w11 ((Value.slice Ag0_0 (res).length ng0_0).ownBlock.toList) (Value.slice Ag0_0 (res).length ng0_0) (res).length 1 := ⟨own_mono owng0 (Nat.zero_le _), rfl⟩
 clear owng0
 have z11 := q11.size
 replace ca0_0 := carryChg q11 ca0_0 (fresh_not fg0 (by omega))
 replace ca0_1 := carryChg q11 ca0_1 (fresh_not fg0 (by omega))
 replace ca0_2 := carryChg q11 ca0_2 (fresh_not fg0 (by omega))
 replace ca0_3 := carryChg q11 ca0_3 (fresh_not fg0 (by omega))
 replace ca0_4 := carryChg q11 ca0_4 (fresh_not fg0 (by omega))
 replace cx0_0 := carryChg q11 cx0_0 (fresh_not fg0 (by omega))
 replace cx0_1 := carryChg q11 cx0_1 (fresh_not fg0 (by omega))
 replace cx0_2 := carryChg q11 cx0_2 (fresh_not fg0 (by omega))
 replace cx0_3 := carryChg q11 cx0_3 (fresh_not fg0 (by omega))
 replace cx0_4 := carryChg q11 cx0_4 (fresh_not fg0 (by omega))
 replace ow0 := ow0.chg q11 (fresh_disj fw0 fg0 (by omega))
 replace hb : Below w.heap.size w w11 := Below.chg hb q11 (by omega) (fun b hb => by have := fg0.2 b hb; omega)
 go_wp2_with fail
 refine (heldStringS_any (Value.slice Ag0_0 (res).length ng0_0) (res).length 1 _ mg0.rd (by omega) (by omega)).mono ?_
 rintro e w12 ⟨rfl, q12⟩
 have b12 : Below w11.heap.size w11 w12 := q12
 have z12 : w11.heap.size + 0 ≤ w12.heap.size := by have := q12.size; (try simp at this); omega
 replace ca0_0 := carry b12 ca0_0
 replace ca0_1 := carry b12 ca0_1
 replace ca0_2 := carry b12 ca0_2
 replace ca0_3 := carry b12 ca0_3
 replace ca0_4 := carry b12 ca0_4
 replace cx0_0 := carry b12 cx0_0
 replace cx0_1 := carry b12 cx0_1
 replace cx0_2 := carry b12 cx0_2
 replace cx0_3 := carry b12 cx0_3
 replace cx0_4 := carry b12 cx0_4
 replace ow0 := ow0.below b12
 replace mg0 := mg0.below b12
 replace hb : Below w.heap.size w w12 := bl_trans hb b12
 go_wp2_with fail
 refine (toTheatre_any n m (Value.slice Aa0_0 (cs).length na0_0) (Value.slice Aa0_1 (pl).length na0_1) (Value.slice Aa0_2 (ds).length na0_2) cs pl ds _ (h0.below (by first | exact hb | exact hb.alloc hb.size _ | (repeat' (first | exact Below.refl _ _ | refine qS ?_ _ | refine qA ?_ _ | refine qD ?_ | refine qN ?_ _ | refine qT ?_ (by assumption))))) hlen0).mono ?_
 rintro e w13 ⟨vu0_1, vu0_2, vu0_3, Su0, rfl, ou0, fu0, q13⟩
 obtain ⟨⟨Au0_0, nu0_0, rfl⟩, ⟨Au0_1, nu0_1, rfl⟩, ⟨Au0_2, nu0_2, rfl⟩⟩ := ou0.rd.forms
 have b13 : Below w12.heap.size w12 w13 := q13
 have z13 : w12.heap.size + 0 ≤ w13.heap.size := by have := q13.size; (try simp at this); omega
 replace ca0_0 := carry b13 ca0_0
 replace ca0_1 := carry b13 ca0_1
 replace ca0_2 := carry b13 ca0_2
 replace ca0_3 := carry b13 ca0_3
 replace ca0_4 := carry b13 ca0_4
 replace cx0_0 := carry b13 cx0_0
 replace cx0_1 := carry b13 cx0_1
 replace cx0_2 := carry b13 cx0_2
 replace cx0_3 := carry b13 cx0_3
 replace cx0_4 := carry b13 cx0_4
 replace ow0 := ow0.below b13
 replace mg0 := mg0.below b13
 replace hb : Below w.heap.size w w13 := bl_trans hb b13
 replace fu0 := fresh_mono (B' := w12.heap.size + 0) fu0 (by first | exact Nat.le_refl _ | (simp; done) | (simp; omega)) (Nat.le_refl _)
 go_wp2_with fail
 refine (C2.out _ _ _ _ (ou0.rd.below (by first | exact Below.refl _ _ | (repeat' (first | exact Below.refl _ _ | refine qS ?_ _ | refine qA ?_ _ | refine qD ?_ | refine qN ?_ _ | refine qT ?_ (by assumption))))) (ht.below (by first | exact hb | exact hb.alloc hb.size _ | (repeat' (first | exact Below.refl _ _ | refine qS ?_ _ | refine qA ?_ _ | refine qD ?_ | refine qN ?_ _ | refine qT ?_ (by assumption)))))).mono ?_
 rintro e w14 ⟨vh0_0, rfl, ownh0, q14⟩
 have oh0 : OwL 9 cStr 1 w14 (vh0_0.ownBlock.toList) vh0_0 (res) := OwL.mk_ ownh0
 have fh0 := fresh_of ownh0
 clear ownh0
 obtain ⟨Ah0_0, nh0_0, rfl, _, _⟩ := oh0.rd.form
 have b14 : Below w13.heap.size w13 w14 := q14
 have z14 : w13.heap.size + 0 ≤ w14.heap.size := by have := q14.size; (try simp at this); omega
 replace ca0_0 := carry b14 ca0_0
 replace ca0_1 := carry b14 ca0_1
 replace ca0_2 := carry b14 ca0_2
 replace ca0_3 := carry b14 ca0_3
 replace ca0_4 := carry b14 ca0_4
 replace cx0_0 := carry b14 cx0_0
 replace cx0_1 := carry b14 cx0_1
 replace cx0_2 := carry b14 cx0_2
 replace cx0_3 := carry b14 cx0_3
 replace cx0_4 := carry b14 cx0_4
 replace ow0 := ow0.below b14
 replace mg0 := mg0.below b14
 replace ou0 := ou0.below b14
 replace hb : Below w.heap.size w w14 := bl_trans hb b14
 replace fh0 := fresh_mono (B' := w13.heap.size + 0) fh0 (by first | exact Nat.le_refl _ | (simp; done) | (simp; omega)) (Nat.le_refl _)
 go_wp2_with fail
 refine (eqStringS_any (Value.slice Ah0_0 (res).length nh0_0) (Value.slice Aw0_0 (res).length nw0_0) (res) _ (oh0.rd.below (by (repeat' (first | exact Below.refl _ _ | refine qS ?_ _ | refine qA ?_ _ | refine qD ?_ | refine qN ?_ _ | refine qT ?_ (by assumption))))) (ow0.rd.below (by (repeat' (first | exact Below.refl _ _ | refine qS ?_ _ | refine qA ?_ _ | refine qD ?_ | refine qN ?_ _ | refine qT ?_ (by assumption)))))).mono ?_
 rintro e w15 ⟨rfl, q15⟩
 have b15 : Below w14.heap.size w14 w15 := q15
 have z15 : w14.heap.size + 0 ≤ w15.heap.size := by have := q15.size; (try simp at this); omega
 replace ca0_0 := carry b15 ca0_0
 replace ca0_1 := carry b15 ca0_1
 replace ca0_2 := carry b15 ca0_2
 replace ca0_3 := carry b15 ca0_3
 replace ca0_4 := carry b15 ca0_4
 replace cx0_0 := carry b15 cx0_0
 replace cx0_1 := carry b15 cx0_1
 replace cx0_2 := carry b15 cx0_2
 replace cx0_3 := carry b15 cx0_3
 replace cx0_4 := carry b15 cx0_4
 replace ow0 := ow0.below b15
 replace mg0 := mg0.below b15
 replace oh0 := oh0.below b15
 replace hb : Below w.heap.size w w15 := bl_trans hb b15
 go_wp2_with fail
 refine (heldStringS_any (Value.slice Ag0_0 (res).length ng0_0) (res).length 1 _ mg0.rd (by omega) (by omega)).mono ?_
 rintro e w16 ⟨rfl, q16⟩
 have b16 : Below w15.heap.size w15 w16 := q16
 have z16 : w15.heap.size + 0 ≤ w16.heap.size := by have := q16.size; (try simp at this); omega
 replace ca0_0 := carry b16 ca0_0
 replace ca0_1 := carry b16 ca0_1
 replace ca0_2 := carry b16 ca0_2
 replace ca0_3 := carry b16 ca0_3
 replace ca0_4 := carry b16 ca0_4
 replace cx0_0 := carry b16 cx0_0
 replace cx0_1 := carry b16 cx0_1
 replace cx0_2 := carry b16 cx0_2
 replace cx0_3 := carry b16 cx0_3
 replace cx0_4 := carry b16 cx0_4
 replace ow0 := ow0.below b16
 replace mg0 := mg0.below b16
 replace oh0 := oh0.below b16
 replace hb : Below w.heap.size w w16 := bl_trans hb b16
 go_wp2_with fail
 go_ret
 exact ⟨rfl, hb⟩
theorem door_met_fnExactFormatTheatre (os : Os) (args : Array Value) : laidMetH Tryz.prog Rows.fnExactFormatTheatreRow.laid ((World.doorLaid Tryz.prog 72 os).forCall (fun _ _ => 0) ⟨#[], args, []⟩).memory :=
 laidMetH_of_parts3 (fuel := 8) (laidMet_of_run' 8 (by kernel_rfl) (by kernel_rfl)) (by kernel_rfl) (by kernel_rfl)
set_option maxRecDepth 100000 in
set_option maxHeartbeats 1000000 in
theorem fnExactFormatTheatre_lifted (os : Os) (started : os.Started) (H : Type) (enc : TypeId × Value → H) :
  ReturnsInHanded {} Tryz.checked os 4 .any (fun w args => (Rows.fnExactFormatTheatreSpec.pre enc Tryz.prog Tryz.f4 [] false w args ∧ laidMetH Tryz.prog Rows.fnExactFormatTheatreRow.laid w) ∧ sizedMet enc Tryz.prog Tryz.f4 (OpenSpec.ofChange Rows.fnExactFormatTheatreSpec) false w args) (Rows.fnExactFormatTheatreSpec.post enc Tryz.prog Tryz.f4 false true false false) := by
 refine returnsInHanded_of_change_and (C := Tryz.checked) (X := fun w _ => laidMetH Tryz.prog Rows.fnExactFormatTheatreRow.laid w) (fun _ _ _ hh h => h.of_heap hh) tryOwn started (by kernel_rfl) Tryz.func4
  (ChangeSpec.witness_shaped (enc := enc) (C := Tryz.checked) (os := os) (X := fun w _ => laidMetH Tryz.prog Rows.fnExactFormatTheatreRow.laid w) false (World.doorLaid Tryz.prog 72 os) #[.agg #[.int .i64 0, .slice none 0 0, .slice none 0 0, .slice none 0 0, .int .i64 0]] 12 rfl (World.shaped_of_RefB (by kernel_rfl) (by kernel_rfl)) (by kernel_rfl) (by kernel_rfl) (by kernel_rfl) (door_met_fnExactFormatTheatre os _)) ?_
 intro W base args ds gs before hval0 hW _ _ hL _
 have hval : ∀ (j : Nat) t v, Tryz.f4.params[j]? = some t → args[j]? = some v → Value.okWide Tryz.prog W .any base t v := hval0
 have hW' := hW
 obtain ⟨p, q, hA0, hV, rfl, hfz, hnd⟩ := hW
 have hA : DataW.TrodAll enc Tryz.prog W 0 (fun _ => true) true Tryz.f4.params.toList args.toList ds p := hA0
 rw [Tryz.params4] at hA hval
 obtain ⟨v0, vs0, d0, ds0, p0, q0, hargs, rfl, rfl, h0, r0⟩ := trodAll_cons hA
 obtain ⟨rfl, rfl, rfl⟩ := trodAll_nil r0
 obtain rfl : args = #[v0] := by cases args; simp_all
 obtain ⟨rfl, rfl⟩ := trodVars_none hV
 have e0 := h0
 have lt0 : ∀ x ∈ p0, x.block < W.heap.size := by obtain ⟨m, hm⟩ := e0; exact DataW.trod_lt m _ _ _ hm
 have ok0 := hval 0 47 v0 rfl rfl
 rw [MakeChecks.laidMetH_plain _ _ _ (by kernel_rfl)] at hL
 clear hA0 hval0 hval
 obtain ⟨⟨⟨p0, q0, s0⟩, t0, m0⟩, rfl, hq0⟩ := arg_struct Tryz.underlying47 ok0 h0 opens_lawsTheatre
 obtain ⟨⟨_, ⟨d0, hd0, _⟩, hpp0⟩, ⟨y0, hy0, _⟩, wm0⟩ := hq0
 obtain ⟨k0, hk0, _⟩ := pls_of hpp0
 have h0' : RdTheatre W q0 s0 t0 d0 k0 y0 := ⟨⟨hd0, hk0⟩, hy0⟩
 refine (lawFormatTheatre_any p0 m0 q0 s0 t0 d0 k0 y0 W h0' (tab3 hL)).mono fun e W' ⟨he, bel⟩ => ?_
 subst he
 exact ⟨_, rfl, _, _, _, [], _, [], hW', trodAll_mk1 (shut_bool Tryz.underlying4 _), (trodAll_cons_mk (Below.trod tryLaid (by kernel_rfl) (of_decide_eq_true (by kernel_rfl)) e0 bel lt0) trodAll_mk0), rfl, bel.frame _, fun h => by cases h⟩
theorem fnExactFormatTheatre_row : Rows.FnExactFormatTheatreSaid :=
 OpenClaim.holds_of_wide 4 Tryz.f4 rfl rfl rfl rfl rfl rfl rfl ⟨rfl, rfl, rfl, rfl, rfl⟩ rfl rfl rfl rfl rfl (by kernel_rfl) Tryz.func4 (by kernel_rfl)
  (of_decide_eq_true (by kernel_rfl)) (by unfold Func.isWrapper; first | (rw [if_pos (by decide +kernel)]; kernel_rfl) | (rw [if_neg (by decide +kernel)]; exact ⟨rfl, rfl⟩))
  (fun os started H enc _ => fnExactFormatTheatre_lifted os started H enc)
theorem fnExactFormatTheatre_holds : Rows.FnExactFormatTheatreCardSaid :=
 Claim7.holds_tied_plain_at .later [] [.data, .data, .data] true (true, "9a5d7ccd6d7b1d899c76cef772b28dbce31a863826f4a730b92639ba3a34e789") true
  fnExactFormatTheatre_row (fun _ h => by cases h) (by kernel_rfl) (fun _ h => by cases h) fnExactFormatTheatre_row_tie rfl ⟨rfl, rfl⟩ (by kernel_rfl) rfl
  (fun f fn hf hfn => by
   obtain rfl : f = 4 := Option.some.inj ((show Tryz.prog.funcNamed "loop.example/g03306/laws.FnExactFormatTheatre" = some 4 by kernel_rfl).symm.trans hf) |>.symm
   obtain rfl : fn = Tryz.f4 := (Option.some.inj (Tryz.func4.symm.trans hfn)).symm
   exact ⟨by kernel_rfl, fun j t ht => by
    rw [Tryz.params4] at ht
    have hm : t ∈ [47] := by simpa using Array.mem_of_getElem? ht
    have hall : ([47].all fun u => !Tryz.prog.wantsStandIn u) = true := by kernel_rfl
    exact (show Tryz.prog.wantsStandIn t = false by simpa using List.all_eq_true.1 hall t hm)⟩)
  (by kernel_rfl)
#print axioms fnExactFormatTheatre_holds
end Go.Proofs.YtdhmhgjjppeodaaGreatDoor
