/- FnExactIsReplay: for every input the program's IsReplay returns what the reference's returns. No condition. Written by a program (exact2.py). -/
import Derived.OpenShut
import Derived.Deep.RegionHeld3
import Derived.Deep.DeepCutAuto
import Derived.Test.YtlhdeojkpmpecaaGreatK25
import Derived.Test.YtlhdeojkpmpecaaGreatBdM7x3
import Derived.Test.YtlhdeojkpmpecaaGreatBdA1x8
import Derived.Test.YtlhdeojkpmpecaaGreatO3
namespace Go.Proofs.YtlhdeojkpmpecaaGreat
open Go.ChangeShapes Go.WideShapes Go.ChangeAt Go.RowKit
set_option maxHeartbeats 32000000 in
set_option maxRecDepth 100000 in
theorem lawIsReplay_any (n m : Int) (a0_0 a0_1 a0_2 : Value) (cs : List RCross) (pl : List RPl) (ds : List Int) (a1_0 : Value) (acts : List RAct) (a2_0 : Value) (ns : List Int) (w : World) (h0 : RdTheatre w a0_0 a0_1 a0_2 cs pl ds) (h1 : RdL cAct 3 w a1_0 acts) (h2 : RdL cInt 1 w a2_0 ns) :
  Calls Tryz.prog 5 #[.agg #[.int .i64 n, a0_0, a0_1, a0_2, .int .i64 m], a1_0, a2_0] w fun e w' => e = .returned (.bool true) ∧ Below w.heap.size w w' := by
 obtain ⟨⟨Aa0_0, na0_0, rfl⟩, ⟨Aa0_1, na0_1, rfl⟩, ⟨Aa0_2, na0_2, rfl⟩⟩ := h0.forms
 obtain ⟨Aa2_0, na2_0, rfl, _, _⟩ := h2.form
 have C1 := Lib.hid (fun W v1 v2 v3 va vn hr ha hn hs => specIsReplay_any n m v1 v2 v3 va vn cs pl ds acts ns W hr ha hn hs)
 have C2 := Lib.hid (fun W v1 v2 v3 va vn hr ha hn hs => implIsReplay_any n m v1 v2 v3 va vn cs pl ds acts ns W hr ha hn hs)
 generalize replB ⟨n, m, cs, pl, ds⟩ acts ns = ok at *
 go_enter Tryz.func5, Tryz.ntmps5
 by_cases hlong2 : 1048576 < (ns).length
 ·have hd : decide ((1048576 : Int) < ((ns).length : Int)) = true := decide_eq_true (by omega)
  go_wp2_with fail
  go_ret
  exact ⟨rfl, by (repeat' (first | exact Below.refl _ _ | (refine Below.setCell ?_ (by first | omega | (simp <;> omega)) _) | (refine Below.alloc ?_ (by first | omega | (simp <;> omega)) _) | (refine Below.drew ?_) | (refine below_drewN ?_ _) | (refine Below.trans ?_ (Below.mono (by assumption) (by first | omega | (simp <;> omega))))))⟩
 have hlen2 : (ns).length ≤ 1048576 := by omega
 have hdl2 : decide ((1048576 : Int) < ((ns).length : Int)) = false := decide_eq_false (by omega)
 go_wp2_with fail
 refine (szTheatre_any n m (Value.slice Aa0_0 (cs).length na0_0) (Value.slice Aa0_1 (pl).length na0_1) (Value.slice Aa0_2 (ds).length na0_2) cs pl ds 1048576 _ (h0.below (by (repeat' (first | exact Below.refl _ _ | (refine Below.setCell ?_ (by first | omega | (simp <;> omega)) _) | (refine Below.alloc ?_ (by first | omega | (simp <;> omega)) _) | (refine Below.drew ?_) | (refine below_drewN ?_ _) | (refine Below.trans ?_ (Below.mono (by assumption) (by first | omega | (simp <;> omega)))))))) (by omega)).mono ?_
 rintro e w1 ⟨r0, rfl, q1, hr0, ht0⟩
 have Ht0 := Lib.hid ht0
 clear ht0
 have b1 : Below w.heap.size w w1 := (bl_alloc q1)
 have z1 : w.heap.size + 1 ≤ w1.heap.size := by have := q1.size; (try simp at this); omega
 have ca0_0 := carry (b := w.heap.size) (o := 0) (v := .int .i64 n) q1 (by simp [go_sem])
 have ca0_1 := carry (b := w.heap.size) (o := 1) (v := (Value.slice Aa0_0 (cs).length na0_0)) q1 (by simp [go_sem])
 have ca0_2 := carry (b := w.heap.size) (o := 2) (v := (Value.slice Aa0_1 (pl).length na0_1)) q1 (by simp [go_sem])
 have ca0_3 := carry (b := w.heap.size) (o := 3) (v := (Value.slice Aa0_2 (ds).length na0_2)) q1 (by simp [go_sem])
 have ca0_4 := carry (b := w.heap.size) (o := 4) (v := .int .i64 m) q1 (by simp [go_sem])
 have hb : Below w.heap.size w w1 := b1
 by_cases hneg0 : r0 < 0
 ·go_wp2_with fail
  go_ret
  exact ⟨rfl, hb⟩
 have hlen0 : szTheatre cs pl ds ≤ 1048576 := by have := Ht0.out (by omega); omega
 go_wp2_with fail
 refine (szB_of (szActS_any a1_0 acts r0 _ (h1.below hb) (by omega))).mono ?_
 rintro e w2 ⟨r1, rfl, q2, hr1, ht1⟩
 have Ht1 := Lib.hid ht1
 clear ht1
 have b2 : Below w1.heap.size w1 w2 := q2
 have z2 : w1.heap.size + 0 ≤ w2.heap.size := by have := q2.size; (try simp at this); omega
 replace ca0_0 := carry b2 ca0_0
 replace ca0_1 := carry b2 ca0_1
 replace ca0_2 := carry b2 ca0_2
 replace ca0_3 := carry b2 ca0_3
 replace ca0_4 := carry b2 ca0_4
 replace hb : Below w.heap.size w w2 := bl_trans hb b2
 by_cases hneg1 : r1 < 0
 ·go_wp2_with fail
  go_ret
  exact ⟨rfl, hb⟩
 have hlen1 : acts.length ≤ 1048576 := by have := Ht1.out (by omega); omega
 go_wp2_with fail
 refine (toTheatre_any n m (Value.slice Aa0_0 (cs).length na0_0) (Value.slice Aa0_1 (pl).length na0_1) (Value.slice Aa0_2 (ds).length na0_2) cs pl ds _ (h0.below (by first | exact hb | exact hb.alloc hb.size _ | (repeat' (first | exact Below.refl _ _ | (refine Below.setCell ?_ (by first | omega | (simp <;> omega)) _) | (refine Below.alloc ?_ (by first | omega | (simp <;> omega)) _) | (refine Below.drew ?_) | (refine below_drewN ?_ _) | (refine Below.trans ?_ (Below.mono (by assumption) (by first | omega | (simp <;> omega)))))))) hlen0).mono ?_
 rintro e w3 ⟨vs0_1, vs0_2, vs0_3, Ss0, rfl, os0, fs0, q3⟩
 obtain ⟨⟨As0_0, ns0_0, rfl⟩, ⟨As0_1, ns0_1, rfl⟩, ⟨As0_2, ns0_2, rfl⟩⟩ := os0.rd.forms
 have b3 : Below w2.heap.size w2 w3 := q3
 have z3 : w2.heap.size + 0 ≤ w3.heap.size := by have := q3.size; (try simp at this); omega
 replace ca0_0 := carry b3 ca0_0
 replace ca0_1 := carry b3 ca0_1
 replace ca0_2 := carry b3 ca0_2
 replace ca0_3 := carry b3 ca0_3
 replace ca0_4 := carry b3 ca0_4
 replace hb : Below w.heap.size w w3 := bl_trans hb b3
 replace fs0 := fresh_mono (B' := w2.heap.size + 0) fs0 (by first | exact Nat.le_refl _ | (simp; done) | (simp; omega)) (Nat.le_refl _)
 go_wp2_with fail
 refine (toActS_any a1_0 acts _ (h1.below (by first | exact hb | exact hb.alloc hb.size _ | (repeat' (first | exact Below.refl _ _ | (refine Below.setCell ?_ (by first | omega | (simp <;> omega)) _) | (refine Below.alloc ?_ (by first | omega | (simp <;> omega)) _) | (refine Below.drew ?_) | (refine below_drewN ?_ _) | (refine Below.trans ?_ (Below.mono (by assumption) (by first | omega | (simp <;> omega)))))))) hlen1).mono ?_
 rintro e w4 ⟨vs1_0, rfl, owns1, q4⟩
 have os1 : OwL 41 cAct 3 w4 (vs1_0.ownBlock.toList) vs1_0 (acts) := OwL.mk_ owns1
 have fs1 := fresh_of owns1
 clear owns1
 obtain ⟨As1_0, ns1_0, rfl, _, _⟩ := os1.rd.form
 have b4 : Below w3.heap.size w3 w4 := q4
 have z4 : w3.heap.size + 0 ≤ w4.heap.size := by have := q4.size; (try simp at this); omega
 replace ca0_0 := carry b4 ca0_0
 replace ca0_1 := carry b4 ca0_1
 replace ca0_2 := carry b4 ca0_2
 replace ca0_3 := carry b4 ca0_3
 replace ca0_4 := carry b4 ca0_4
 replace os0 := os0.below b4
 replace hb : Below w.heap.size w w4 := bl_trans hb b4
 replace fs1 := fresh_mono (B' := w3.heap.size + 0) fs1 (by first | exact Nat.le_refl _ | (simp; done) | (simp; omega)) (Nat.le_refl _)
 go_wp2_with fail
 refine (toIntS_any (Value.slice Aa2_0 (ns).length na2_0) ns _ (h2.below (by first | exact hb | exact hb.alloc hb.size _ | (repeat' (first | exact Below.refl _ _ | (refine Below.setCell ?_ (by first | omega | (simp <;> omega)) _) | (refine Below.alloc ?_ (by first | omega | (simp <;> omega)) _) | (refine Below.drew ?_) | (refine below_drewN ?_ _) | (refine Below.trans ?_ (Below.mono (by assumption) (by first | omega | (simp <;> omega)))))))) hlen2).mono ?_
 rintro e w5 ⟨vs2_0, rfl, owns2, q5⟩
 have os2 : OwL 3 cInt 1 w5 (vs2_0.ownBlock.toList) vs2_0 (ns) := OwL.mk_ owns2
 have fs2 := fresh_of owns2
 clear owns2
 obtain ⟨As2_0, ns2_0, rfl, _, _⟩ := os2.rd.form
 have b5 : Below w4.heap.size w4 w5 := q5
 have z5 : w4.heap.size + 0 ≤ w5.heap.size := by have := q5.size; (try simp at this); omega
 replace ca0_0 := carry b5 ca0_0
 replace ca0_1 := carry b5 ca0_1
 replace ca0_2 := carry b5 ca0_2
 replace ca0_3 := carry b5 ca0_3
 replace ca0_4 := carry b5 ca0_4
 replace os0 := os0.below b5
 replace os1 := os1.below b5
 replace hb : Below w.heap.size w w5 := bl_trans hb b5
 replace fs2 := fresh_mono (B' := w4.heap.size + 0) fs2 (by first | exact Nat.le_refl _ | (simp; done) | (simp; omega)) (Nat.le_refl _)
 go_wp2_with fail
 refine (C1.out _ _ _ _ _ _ (os0.rd.below (by first | exact Below.refl _ _ | (repeat' (first | exact Below.refl _ _ | (refine Below.setCell ?_ (by first | omega | (simp <;> omega)) _) | (refine Below.alloc ?_ (by first | omega | (simp <;> omega)) _) | (refine Below.drew ?_) | (refine below_drewN ?_ _) | (refine Below.trans ?_ (Below.mono (by assumption) (by first | omega | (simp <;> omega)))))))) (os1.rd.below (by first | exact Below.refl _ _ | (repeat' (first | exact Below.refl _ _ | (refine Below.setCell ?_ (by first | omega | (simp <;> omega)) _) | (refine Below.alloc ?_ (by first | omega | (simp <;> omega)) _) | (refine Below.drew ?_) | (refine below_drewN ?_ _) | (refine Below.trans ?_ (Below.mono (by assumption) (by first | omega | (simp <;> omega)))))))) (os2.rd.below (by first | exact Below.refl _ _ | (repeat' (first | exact Below.refl _ _ | (refine Below.setCell ?_ (by first | omega | (simp <;> omega)) _) | (refine Below.alloc ?_ (by first | omega | (simp <;> omega)) _) | (refine Below.drew ?_) | (refine below_drewN ?_ _) | (refine Below.trans ?_ (Below.mono (by assumption) (by first | omega | (simp <;> omega)))))))) hlen0).mono ?_
 rintro e w6 ⟨rfl, q6⟩
 have b6 : Below w5.heap.size w5 w6 := q6
 have z6 : w5.heap.size + 0 ≤ w6.heap.size := by have := q6.size; (try simp at this); omega
 replace ca0_0 := carry b6 ca0_0
 replace ca0_1 := carry b6 ca0_1
 replace ca0_2 := carry b6 ca0_2
 replace ca0_3 := carry b6 ca0_3
 replace ca0_4 := carry b6 ca0_4
 replace os0 := os0.below b6
 replace os1 := os1.below b6
 replace os2 := os2.below b6
 replace hb : Below w.heap.size w w6 := bl_trans hb b6
 go_wp2_with fail
 refine (toTheatre_any n m (Value.slice Aa0_0 (cs).length na0_0) (Value.slice Aa0_1 (pl).length na0_1) (Value.slice Aa0_2 (ds).length na0_2) cs pl ds _ (h0.below (by first | exact hb | exact hb.alloc hb.size _ | (repeat' (first | exact Below.refl _ _ | (refine Below.setCell ?_ (by first | omega | (simp <;> omega)) _) | (refine Below.alloc ?_ (by first | omega | (simp <;> omega)) _) | (refine Below.drew ?_) | (refine below_drewN ?_ _) | (refine Below.trans ?_ (Below.mono (by assumption) (by first | omega | (simp <;> omega)))))))) hlen0).mono ?_
 rintro e w7 ⟨vx0_1, vx0_2, vx0_3, Sx0, rfl, ox0, fx0, q7⟩
 obtain ⟨⟨Ax0_0, nx0_0, rfl⟩, ⟨Ax0_1, nx0_1, rfl⟩, ⟨Ax0_2, nx0_2, rfl⟩⟩ := ox0.rd.forms
 have b7 : Below w6.heap.size w6 w7 := q7
 have z7 : w6.heap.size + 0 ≤ w7.heap.size := by have := q7.size; (try simp at this); omega
 replace ca0_0 := carry b7 ca0_0
 replace ca0_1 := carry b7 ca0_1
 replace ca0_2 := carry b7 ca0_2
 replace ca0_3 := carry b7 ca0_3
 replace ca0_4 := carry b7 ca0_4
 replace hb : Below w.heap.size w w7 := bl_trans hb b7
 replace fx0 := fresh_mono (B' := w6.heap.size + 0) fx0 (by first | exact Nat.le_refl _ | (simp; done) | (simp; omega)) (Nat.le_refl _)
 have ja0_0 := (cell_alloc (.cells #[.int .i64 n, (Value.slice Ax0_0 (cs).length nx0_0), (Value.slice Ax0_1 (pl).length nx0_1), (Value.slice Ax0_2 (ds).length nx0_2), .int .i64 m] 37) ca0_0)
 have ja0_1 := (cell_alloc (.cells #[.int .i64 n, (Value.slice Ax0_0 (cs).length nx0_0), (Value.slice Ax0_1 (pl).length nx0_1), (Value.slice Ax0_2 (ds).length nx0_2), .int .i64 m] 37) ca0_1)
 have ja0_2 := (cell_alloc (.cells #[.int .i64 n, (Value.slice Ax0_0 (cs).length nx0_0), (Value.slice Ax0_1 (pl).length nx0_1), (Value.slice Ax0_2 (ds).length nx0_2), .int .i64 m] 37) ca0_2)
 have ja0_3 := (cell_alloc (.cells #[.int .i64 n, (Value.slice Ax0_0 (cs).length nx0_0), (Value.slice Ax0_1 (pl).length nx0_1), (Value.slice Ax0_2 (ds).length nx0_2), .int .i64 m] 37) ca0_3)
 have ja0_4 := (cell_alloc (.cells #[.int .i64 n, (Value.slice Ax0_0 (cs).length nx0_0), (Value.slice Ax0_1 (pl).length nx0_1), (Value.slice Ax0_2 (ds).length nx0_2), .int .i64 m] 37) ca0_4)
 go_wp2_with fail
 refine (toActS_any a1_0 acts _ (h1.below (by first | exact hb | exact hb.alloc hb.size _ | (repeat' (first | exact Below.refl _ _ | (refine Below.setCell ?_ (by first | omega | (simp <;> omega)) _) | (refine Below.alloc ?_ (by first | omega | (simp <;> omega)) _) | (refine Below.drew ?_) | (refine below_drewN ?_ _) | (refine Below.trans ?_ (Below.mono (by assumption) (by first | omega | (simp <;> omega)))))))) hlen1).mono ?_
 rintro e w8 ⟨vx1_0, rfl, ownx1, q8⟩
 clear ja0_0 ja0_1 ja0_2 ja0_3 ja0_4
 have ox1 : OwL 41 cAct 3 w8 (vx1_0.ownBlock.toList) vx1_0 (acts) := OwL.mk_ ownx1
 have fx1 := fresh_of ownx1
 clear ownx1
 obtain ⟨Ax1_0, nx1_0, rfl, _, _⟩ := ox1.rd.form
 have b8 : Below w7.heap.size w7 w8 := (bl_alloc q8)
 have z8 : w7.heap.size + 1 ≤ w8.heap.size := by have := q8.size; (try simp at this); omega
 have cx0_0 := carry (b := w7.heap.size) (o := 0) (v := .int .i64 n) q8 (by simp [go_sem])
 have cx0_1 := carry (b := w7.heap.size) (o := 1) (v := (Value.slice Ax0_0 (cs).length nx0_0)) q8 (by simp [go_sem])
 have cx0_2 := carry (b := w7.heap.size) (o := 2) (v := (Value.slice Ax0_1 (pl).length nx0_1)) q8 (by simp [go_sem])
 have cx0_3 := carry (b := w7.heap.size) (o := 3) (v := (Value.slice Ax0_2 (ds).length nx0_2)) q8 (by simp [go_sem])
 have cx0_4 := carry (b := w7.heap.size) (o := 4) (v := .int .i64 m) q8 (by simp [go_sem])
 replace ca0_0 := carry b8 ca0_0
 replace ca0_1 := carry b8 ca0_1
 replace ca0_2 := carry b8 ca0_2
 replace ca0_3 := carry b8 ca0_3
 replace ca0_4 := carry b8 ca0_4
 replace ox0 := ox0.below b8
 replace hb : Below w.heap.size w w8 := bl_trans hb b8
 replace fx1 := fresh_mono (B' := w7.heap.size + 1) fx1 (by first | exact Nat.le_refl _ | (simp; done) | (simp; omega)) (Nat.le_refl _)
 go_wp2_with fail
 refine (toIntS_any (Value.slice Aa2_0 (ns).length na2_0) ns _ (h2.below (by first | exact hb | exact hb.alloc hb.size _ | (repeat' (first | exact Below.refl _ _ | (refine Below.setCell ?_ (by first | omega | (simp <;> omega)) _) | (refine Below.alloc ?_ (by first | omega | (simp <;> omega)) _) | (refine Below.drew ?_) | (refine below_drewN ?_ _) | (refine Below.trans ?_ (Below.mono (by assumption) (by first | omega | (simp <;> omega)))))))) hlen2).mono ?_
 rintro e w9 ⟨vx2_0, rfl, ownx2, q9⟩
 have ox2 : OwL 3 cInt 1 w9 (vx2_0.ownBlock.toList) vx2_0 (ns) := OwL.mk_ ownx2
 have fx2 := fresh_of ownx2
 clear ownx2
 obtain ⟨Ax2_0, nx2_0, rfl, _, _⟩ := ox2.rd.form
 have b9 : Below w8.heap.size w8 w9 := q9
 have z9 : w8.heap.size + 0 ≤ w9.heap.size := by have := q9.size; (try simp at this); omega
 replace ca0_0 := carry b9 ca0_0
 replace ca0_1 := carry b9 ca0_1
 replace ca0_2 := carry b9 ca0_2
 replace ca0_3 := carry b9 ca0_3
 replace ca0_4 := carry b9 ca0_4
 replace cx0_0 := carry b9 cx0_0
 replace cx0_1 := carry b9 cx0_1
 replace cx0_2 := carry b9 cx0_2
 replace cx0_3 := carry b9 cx0_3
 replace cx0_4 := carry b9 cx0_4
 replace ox0 := ox0.below b9
 replace ox1 := ox1.below b9
 replace hb : Below w.heap.size w w9 := bl_trans hb b9
 replace fx2 := fresh_mono (B' := w8.heap.size + 0) fx2 (by first | exact Nat.le_refl _ | (simp; done) | (simp; omega)) (Nat.le_refl _)
 go_wp2_with fail
 refine (C2.out _ _ _ _ _ _ (ox0.rd.below (by first | exact Below.refl _ _ | (repeat' (first | exact Below.refl _ _ | (refine Below.setCell ?_ (by first | omega | (simp <;> omega)) _) | (refine Below.alloc ?_ (by first | omega | (simp <;> omega)) _) | (refine Below.drew ?_) | (refine below_drewN ?_ _) | (refine Below.trans ?_ (Below.mono (by assumption) (by first | omega | (simp <;> omega)))))))) (ox1.rd.below (by first | exact Below.refl _ _ | (repeat' (first | exact Below.refl _ _ | (refine Below.setCell ?_ (by first | omega | (simp <;> omega)) _) | (refine Below.alloc ?_ (by first | omega | (simp <;> omega)) _) | (refine Below.drew ?_) | (refine below_drewN ?_ _) | (refine Below.trans ?_ (Below.mono (by assumption) (by first | omega | (simp <;> omega)))))))) (ox2.rd.below (by first | exact Below.refl _ _ | (repeat' (first | exact Below.refl _ _ | (refine Below.setCell ?_ (by first | omega | (simp <;> omega)) _) | (refine Below.alloc ?_ (by first | omega | (simp <;> omega)) _) | (refine Below.drew ?_) | (refine below_drewN ?_ _) | (refine Below.trans ?_ (Below.mono (by assumption) (by first | omega | (simp <;> omega)))))))) hlen0).mono ?_
 rintro e w10 ⟨rfl, q10⟩
 have b10 : Below w9.heap.size w9 w10 := q10
 have z10 : w9.heap.size + 0 ≤ w10.heap.size := by have := q10.size; (try simp at this); omega
 replace ca0_0 := carry b10 ca0_0
 replace ca0_1 := carry b10 ca0_1
 replace ca0_2 := carry b10 ca0_2
 replace ca0_3 := carry b10 ca0_3
 replace ca0_4 := carry b10 ca0_4
 replace cx0_0 := carry b10 cx0_0
 replace cx0_1 := carry b10 cx0_1
 replace cx0_2 := carry b10 cx0_2
 replace cx0_3 := carry b10 cx0_3
 replace cx0_4 := carry b10 cx0_4
 replace ox0 := ox0.below b10
 replace ox1 := ox1.below b10
 replace ox2 := ox2.below b10
 replace hb : Below w.heap.size w w10 := bl_trans hb b10
 go_wp2_with fail
 go_region_held3 (fun w' => w'.cell? ⟨w7.heap.size, 0, none⟩ = some (.int .i64 n) ∧ w'.cell? ⟨w7.heap.size, 1, none⟩ = some ((Value.slice Ax0_0 (cs).length nx0_0)) ∧ w'.cell? ⟨w7.heap.size, 2, none⟩ = some ((Value.slice Ax0_1 (pl).length nx0_1)) ∧ w'.cell? ⟨w7.heap.size, 3, none⟩ = some ((Value.slice Ax0_2 (ds).length nx0_2)) ∧ w'.cell? ⟨w7.heap.size, 4, none⟩ = some (.int .i64 m) ∧ w'.cell? ⟨w.heap.size, 0, none⟩ = some (.int .i64 n) ∧ w'.cell? ⟨w.heap.size, 1, none⟩ = some ((Value.slice Aa0_0 (cs).length na0_0)) ∧ w'.cell? ⟨w.heap.size, 2, none⟩ = some ((Value.slice Aa0_1 (pl).length na0_1)) ∧ w'.cell? ⟨w.heap.size, 3, none⟩ = some ((Value.slice Aa0_2 (ds).length na0_2)) ∧ w'.cell? ⟨w.heap.size, 4, none⟩ = some (.int .i64 m)) (exact ⟨cx0_0, cx0_1, cx0_2, cx0_3, cx0_4, ca0_0, ca0_1, ca0_2, ca0_3, ca0_4⟩) (first | (go_at_call 12; refine (toTheatre_any n m (Value.slice Aa0_0 (cs).length na0_0) (Value.slice Aa0_1 (pl).length na0_1) (Value.slice Aa0_2 (ds).length na0_2) cs pl ds _ (h0.below (by first | exact hb | exact hb.drew | exact below_drewN hb _)) hlen0).mono ?_; rintro e w11 ⟨vy0_1, vy0_2, vy0_3, Sy0, rfl, oy0, fy0, q11⟩; obtain ⟨⟨Ay0_0, ny0_0, rfl⟩, ⟨Ay0_1, ny0_1, rfl⟩, ⟨Ay0_2, ny0_2, rfl⟩⟩ := oy0.rd.forms; have b11 : Below w10.heap.size w10 w11 := (by first | exact q11 | exact ((Below.refl _ _).drew).trans q11 | exact (below_drewN (Below.refl _ _) _).trans q11); have z11 := b11.size; replace ca0_0 := carry b11 ca0_0; replace ca0_1 := carry b11 ca0_1; replace ca0_2 := carry b11 ca0_2; replace ca0_3 := carry b11 ca0_3; replace ca0_4 := carry b11 ca0_4; replace cx0_0 := carry b11 cx0_0; replace cx0_1 := carry b11 cx0_1; replace cx0_2 := carry b11 cx0_2; replace cx0_3 := carry b11 cx0_3; replace cx0_4 := carry b11 cx0_4; replace ox0 := ox0.below b11; replace ox1 := ox1.below b11; replace ox2 := ox2.below b11; replace hb : Below w.heap.size w w11 := bl_trans hb b11) | (go_at_call 15; refine (eqTheatre_any n m (Value.slice Ax0_0 (cs).length nx0_0) (Value.slice Ax0_1 (pl).length nx0_1) (Value.slice Ax0_2 (ds).length nx0_2) (Value.slice Ay0_0 (cs).length ny0_0) (Value.slice Ay0_1 (pl).length ny0_1) (Value.slice Ay0_2 (ds).length ny0_2) cs pl ds _ ox0.rd oy0.rd).mono ?_; rintro e w12 ⟨rfl, q12⟩; have b12 : Below w11.heap.size w11 w12 := (by first | exact q12 | exact ((Below.refl _ _).drew).trans q12 | exact (below_drewN (Below.refl _ _) _).trans q12); have z12 := b12.size; replace ca0_0 := carry b12 ca0_0; replace ca0_1 := carry b12 ca0_1; replace ca0_2 := carry b12 ca0_2; replace ca0_3 := carry b12 ca0_3; replace ca0_4 := carry b12 ca0_4; replace cx0_0 := carry b12 cx0_0; replace cx0_1 := carry b12 cx0_1; replace cx0_2 := carry b12 cx0_2; replace cx0_3 := carry b12 cx0_3; replace cx0_4 := carry b12 cx0_4; replace ox0 := ox0.below b12; replace ox1 := ox1.below b12; replace ox2 := ox2.below b12; replace oy0 := oy0.below b12; replace hb : Below w.heap.size w w12 := bl_trans hb b12))
 go_wp2_with fail
 refine (toActS_any a1_0 acts _ (h1.below (by first | exact hb | exact hb.alloc hb.size _ | (repeat' (first | exact Below.refl _ _ | (refine Below.setCell ?_ (by first | omega | (simp <;> omega)) _) | (refine Below.alloc ?_ (by first | omega | (simp <;> omega)) _) | (refine Below.drew ?_) | (refine below_drewN ?_ _) | (refine Below.trans ?_ (Below.mono (by assumption) (by first | omega | (simp <;> omega)))))))) hlen1).mono ?_
 rintro e w13 ⟨vy1_0, rfl, owny1, q13⟩
 have oy1 : OwL 41 cAct 3 w13 (vy1_0.ownBlock.toList) vy1_0 (acts) := OwL.mk_ owny1
 have fy1 := fresh_of owny1
 clear owny1
 obtain ⟨Ay1_0, ny1_0, rfl, _, _⟩ := oy1.rd.form
 have b13 : Below w12.heap.size w12 w13 := q13
 have z13 : w12.heap.size + 0 ≤ w13.heap.size := by have := q13.size; (try simp at this); omega
 replace ca0_0 := carry b13 ca0_0
 replace ca0_1 := carry b13 ca0_1
 replace ca0_2 := carry b13 ca0_2
 replace ca0_3 := carry b13 ca0_3
 replace ca0_4 := carry b13 ca0_4
 replace cx0_0 := carry b13 cx0_0
 replace cx0_1 := carry b13 cx0_1
 replace cx0_2 := carry b13 cx0_2
 replace cx0_3 := carry b13 cx0_3
 replace cx0_4 := carry b13 cx0_4
 replace ox0 := ox0.below b13
 replace ox1 := ox1.below b13
 replace ox2 := ox2.below b13
 replace hb : Below w.heap.size w w13 := bl_trans hb b13
 replace fy1 := fresh_mono (B' := w12.heap.size + 0) fy1 (by first | exact Nat.le_refl _ | (simp; done) | (simp; omega)) (Nat.le_refl _)
 go_wp2_with fail
 refine (eqActS_any (Value.slice Ax1_0 (acts).length nx1_0) (Value.slice Ay1_0 (acts).length ny1_0) (acts) _ (ox1.rd.below (by (repeat' (first | exact Below.refl _ _ | (refine Below.setCell ?_ (by first | omega | (simp <;> omega)) _) | (refine Below.alloc ?_ (by first | omega | (simp <;> omega)) _) | (refine Below.drew ?_) | (refine below_drewN ?_ _) | (refine Below.trans ?_ (Below.mono (by assumption) (by first | omega | (simp <;> omega)))))))) (oy1.rd.below (by (repeat' (first | exact Below.refl _ _ | (refine Below.setCell ?_ (by first | omega | (simp <;> omega)) _) | (refine Below.alloc ?_ (by first | omega | (simp <;> omega)) _) | (refine Below.drew ?_) | (refine below_drewN ?_ _) | (refine Below.trans ?_ (Below.mono (by assumption) (by first | omega | (simp <;> omega))))))))).mono ?_
 rintro e w14 ⟨rfl, q14⟩
 have b14 : Below w13.heap.size w13 w14 := q14
 have z14 : w13.heap.size + 0 ≤ w14.heap.size := by have := q14.size; (try simp at this); omega
 replace ca0_0 := carry b14 ca0_0
 replace ca0_1 := carry b14 ca0_1
 replace ca0_2 := carry b14 ca0_2
 replace ca0_3 := carry b14 ca0_3
 replace ca0_4 := carry b14 ca0_4
 replace cx0_0 := carry b14 cx0_0
 replace cx0_1 := carry b14 cx0_1
 replace cx0_2 := carry b14 cx0_2
 replace cx0_3 := carry b14 cx0_3
 replace cx0_4 := carry b14 cx0_4
 replace ox0 := ox0.below b14
 replace ox1 := ox1.below b14
 replace ox2 := ox2.below b14
 replace oy1 := oy1.below b14
 replace hb : Below w.heap.size w w14 := bl_trans hb b14
 go_wp2_with fail
 refine (toIntS_any (Value.slice Aa2_0 (ns).length na2_0) ns _ (h2.below (by first | exact hb | exact hb.alloc hb.size _ | (repeat' (first | exact Below.refl _ _ | (refine Below.setCell ?_ (by first | omega | (simp <;> omega)) _) | (refine Below.alloc ?_ (by first | omega | (simp <;> omega)) _) | (refine Below.drew ?_) | (refine below_drewN ?_ _) | (refine Below.trans ?_ (Below.mono (by assumption) (by first | omega | (simp <;> omega)))))))) hlen2).mono ?_
 rintro e w15 ⟨vy2_0, rfl, owny2, q15⟩
 have oy2 : OwL 3 cInt 1 w15 (vy2_0.ownBlock.toList) vy2_0 (ns) := OwL.mk_ owny2
 have fy2 := fresh_of owny2
 clear owny2
 obtain ⟨Ay2_0, ny2_0, rfl, _, _⟩ := oy2.rd.form
 have b15 : Below w14.heap.size w14 w15 := q15
 have z15 : w14.heap.size + 0 ≤ w15.heap.size := by have := q15.size; (try simp at this); omega
 replace ca0_0 := carry b15 ca0_0
 replace ca0_1 := carry b15 ca0_1
 replace ca0_2 := carry b15 ca0_2
 replace ca0_3 := carry b15 ca0_3
 replace ca0_4 := carry b15 ca0_4
 replace cx0_0 := carry b15 cx0_0
 replace cx0_1 := carry b15 cx0_1
 replace cx0_2 := carry b15 cx0_2
 replace cx0_3 := carry b15 cx0_3
 replace cx0_4 := carry b15 cx0_4
 replace ox0 := ox0.below b15
 replace ox1 := ox1.below b15
 replace ox2 := ox2.below b15
 replace hb : Below w.heap.size w w15 := bl_trans hb b15
 replace fy2 := fresh_mono (B' := w14.heap.size + 0) fy2 (by first | exact Nat.le_refl _ | (simp; done) | (simp; omega)) (Nat.le_refl _)
 go_wp2_with fail
 refine (eqIntS_any (Value.slice Ax2_0 (ns).length nx2_0) (Value.slice Ay2_0 (ns).length ny2_0) (ns) _ (ox2.rd.below (by (repeat' (first | exact Below.refl _ _ | (refine Below.setCell ?_ (by first | omega | (simp <;> omega)) _) | (refine Below.alloc ?_ (by first | omega | (simp <;> omega)) _) | (refine Below.drew ?_) | (refine below_drewN ?_ _) | (refine Below.trans ?_ (Below.mono (by assumption) (by first | omega | (simp <;> omega)))))))) (oy2.rd.below (by (repeat' (first | exact Below.refl _ _ | (refine Below.setCell ?_ (by first | omega | (simp <;> omega)) _) | (refine Below.alloc ?_ (by first | omega | (simp <;> omega)) _) | (refine Below.drew ?_) | (refine below_drewN ?_ _) | (refine Below.trans ?_ (Below.mono (by assumption) (by first | omega | (simp <;> omega))))))))).mono ?_
 rintro e w16 ⟨rfl, q16⟩
 have b16 : Below w15.heap.size w15 w16 := q16
 have z16 : w15.heap.size + 0 ≤ w16.heap.size := by have := q16.size; (try simp at this); omega
 replace ca0_0 := carry b16 ca0_0
 replace ca0_1 := carry b16 ca0_1
 replace ca0_2 := carry b16 ca0_2
 replace ca0_3 := carry b16 ca0_3
 replace ca0_4 := carry b16 ca0_4
 replace cx0_0 := carry b16 cx0_0
 replace cx0_1 := carry b16 cx0_1
 replace cx0_2 := carry b16 cx0_2
 replace cx0_3 := carry b16 cx0_3
 replace cx0_4 := carry b16 cx0_4
 replace ox0 := ox0.below b16
 replace ox1 := ox1.below b16
 replace ox2 := ox2.below b16
 replace oy2 := oy2.below b16
 replace hb : Below w.heap.size w w16 := bl_trans hb b16
 go_wp2_with fail
 go_ret
 exact ⟨rfl, hb⟩
set_option maxRecDepth 100000 in
set_option maxHeartbeats 1000000 in
theorem fnExactIsReplay_lifted (os : Os) (started : os.Started) (H : Type) (enc : TypeId × Value → H) :
  ReturnsInHanded {} Tryz.checked os 5 .any (Rows.fnExactIsReplaySpec.pre6 enc Tryz.prog Tryz.f5 Rows.fnExactIsReplayRow.domain false) (Rows.fnExactIsReplaySpec.post enc Tryz.prog Tryz.f5 false true false false) := by
 refine returnsInHanded_of_change (C := Tryz.checked) tryOwn started (by kernel_rfl) Tryz.func5
  (ChangeSpec.witness6 (enc := enc) (C := Tryz.checked) false ⟨#[], #[.agg #[.int .i64 0, .slice none 0 0, .slice none 0 0, .slice none 0 0, .int .i64 0], .slice none 0 0, .slice none 0 0], []⟩ 12 (by kernel_rfl) (by kernel_rfl) (by kernel_rfl) (by kernel_rfl)) ?_
 intro W base args ds gs before hval0 hW hcnd _
 have hval : ∀ (j : Nat) t v, Tryz.f5.params[j]? = some t → args[j]? = some v → Value.okWide Tryz.prog W .any base t v := hval0
 have hW' := hW
 obtain ⟨p, q, hA0, hV, rfl, hfz, hnd⟩ := hW
 have hA : DataW.TrodAll enc Tryz.prog W 0 (fun _ => true) true Tryz.f5.params.toList args.toList ds p := hA0
 rw [Tryz.params5] at hA hval
 obtain ⟨v0, vs0, d0, ds0, p0, q0, hargs, rfl, rfl, h0, r0⟩ := trodAll_cons hA
 obtain ⟨v1, vs1, d1, ds1, p1, q1, rfl, rfl, rfl, h1, r1⟩ := trodAll_cons r0
 obtain ⟨v2, vs2, d2, ds2, p2, q2, rfl, rfl, rfl, h2, r2⟩ := trodAll_cons r1
 obtain ⟨rfl, rfl, rfl⟩ := trodAll_nil r2
 obtain rfl : args = #[v0, v1, v2] := by cases args; simp_all
 obtain ⟨rfl, rfl⟩ := trodVars_none hV
 have e0 := h0
 have lt0 : ∀ x ∈ p0, x.block < W.heap.size := by obtain ⟨m, hm⟩ := e0; exact DataW.trod_lt m _ _ _ hm
 have ok0 := hval 0 28 v0 rfl rfl
 have e1 := h1
 have lt1 : ∀ x ∈ p1, x.block < W.heap.size := by obtain ⟨m, hm⟩ := e1; exact DataW.trod_lt m _ _ _ hm
 have ok1 := hval 1 46 v1 rfl rfl
 have e2 := h2
 have lt2 : ∀ x ∈ p2, x.block < W.heap.size := by obtain ⟨m, hm⟩ := e2; exact DataW.trod_lt m _ _ _ hm
 have ok2 := hval 2 26 v2 rfl rfl
 clear hA0 hval0 hval
 obtain ⟨⟨⟨p0, q0, s0⟩, t0, m0⟩, rfl, hq0⟩ := arg_struct Tryz.underlying28 ok0 h0 opens_lawsTheatre
 obtain ⟨⟨_, ⟨d0, hd0, _⟩, hpp0⟩, ⟨y0, hy0, _⟩, wm0⟩ := hq0
 obtain ⟨k0, hk0, _⟩ := pls_of hpp0
 have h0' : RdTheatre W q0 s0 t0 d0 k0 y0 := ⟨⟨hd0, hk0⟩, hy0⟩
 obtain ⟨xs1, h1', _⟩ := arg_slice Tryz.underlying46 ok1 h1 (opens_slice (size := 3) Tryz.underlying46 (by kernel_rfl) (by omega) cAct_len opens_lawsAct)
 obtain ⟨xs2, h2', _⟩ := arg_slice Tryz.underlying26 ok2 h2 (opens_slice (size := 1) Tryz.underlying26 (by kernel_rfl) (by omega) cInt_len (opens_int Tryz.underlying3))
 refine (lawIsReplay_any p0 m0 q0 s0 t0 d0 k0 y0 v1 xs1 v2 xs2 W h0' h1' h2').mono fun e W' ⟨he, bel⟩ => ?_
 subst he
 exact ⟨_, rfl, _, _, _, [], _, [], hW', trodAll_mk1 (shut_bool Tryz.underlying4 _), (trodAll_cons_mk (Below.trod tryLaid (by kernel_rfl) (of_decide_eq_true (by kernel_rfl)) e0 bel lt0) (trodAll_cons_mk (Below.trod tryLaid (by kernel_rfl) (of_decide_eq_true (by kernel_rfl)) e1 bel lt1) (trodAll_cons_mk (Below.trod tryLaid (by kernel_rfl) (of_decide_eq_true (by kernel_rfl)) e2 bel lt2) trodAll_mk0))), rfl, bel.frame _, fun h => by cases h⟩
theorem fnExactIsReplay_holds : Rows.FnExactIsReplaySaid :=
 OpenClaim.holds_of_wide 5 Tryz.f5 rfl rfl rfl rfl rfl rfl rfl ⟨rfl, rfl, rfl, rfl, rfl⟩ rfl rfl rfl rfl rfl (by kernel_rfl) Tryz.func5 (by kernel_rfl)
  (of_decide_eq_true (by kernel_rfl)) (by unfold Func.isWrapper; first | (rw [if_pos (by decide +kernel)]; kernel_rfl) | (rw [if_neg (by decide +kernel)]; exact ⟨rfl, rfl⟩))
  (fun os started H enc _ => fnExactIsReplay_lifted os started H enc)
#print axioms fnExactIsReplay_holds
end Go.Proofs.YtlhdeojkpmpecaaGreat
