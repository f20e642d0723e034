/- FnExactPutInOrder: for every input the program's PutInOrder returns what the reference's returns. No condition. Written by a program (exact2.py). -/
import Derived.OpenShut
import Derived.Deep.RegionHeld3
import Derived.Test.YtjbhlbcjljdjmaaBdK16x4
import Derived.Test.YtjbhlbcjljdjmaaBdA1x8
import Derived.Test.YtjbhlbcjljdjmaaO3
namespace Go.Proofs.Ytjbhlbcjljdjmaa
open Go.ChangeShapes Go.WideShapes Go.ChangeAt Go.RowKit
set_option maxHeartbeats 8000000 in
set_option maxRecDepth 100000 in
theorem lawPutInOrder_any (n m : Int) (a0_0 a0_1 a0_2 : Value) (cs : List RCross) (pl : List RPl) (ds : List Int) (w : World) (h0 : RdTheatre w a0_0 a0_1 a0_2 cs pl ds) :
    Calls Try.prog 7 #[.agg #[.int .i64 n, a0_0, a0_1, a0_2, .int .i64 m]] w fun e w' => e = .returned (.bool true) ∧ Below w.heap.size w w' := by
  obtain ⟨⟨Aa0_0, na0_0, rfl⟩, ⟨Aa0_1, na0_1, rfl⟩, ⟨Aa0_2, na0_2, rfl⟩⟩ := h0.forms
  obtain ⟨n', m', ok, cs', pl', ds', hs', C1, C2⟩ := order2 n m cs pl ds
  replace C1 := Lib.hid C1
  replace C2 := Lib.hid C2
  go_enter Try.func7, Try.ntmps7
  go_wp2_with fail
  refine (szTheatre_any n m (Value.slice Aa0_0 (cs).length na0_0) (Value.slice Aa0_1 (pl).length na0_1) (Value.slice Aa0_2 (ds).length na0_2) cs pl ds 1048576 _ (h0.below (by (repeat' (first | exact Below.refl _ _ | (refine Below.setCell ?_ (by first | omega | (simp; omega) | (simp; done)) _) | (refine Below.alloc ?_ (by first | omega | (simp; omega) | (simp; done)) _) | (refine Below.drew ?_) | (refine below_drewN ?_ _) | (refine Below.trans ?_ (Below.mono (by assumption) (by first | omega | (simp; omega) | (simp; done)))))))) (by omega)).mono ?_
  rintro e w1 ⟨r0, rfl, q1, hr0, ht0⟩
  have Ht0 := Lib.hid ht0
  clear ht0
  have b1 : Below w.heap.size w w1 := (bl_alloc q1)
  have z1 : w.heap.size + 1 ≤ w1.heap.size := by have := q1.size; (try simp at this); omega
  have ca0_0 := carry (b := w.heap.size) (o := 0) (v := .int .i64 n) q1 (by simp [go_sem])
  have ca0_1 := carry (b := w.heap.size) (o := 1) (v := (Value.slice Aa0_0 (cs).length na0_0)) q1 (by simp [go_sem])
  have ca0_2 := carry (b := w.heap.size) (o := 2) (v := (Value.slice Aa0_1 (pl).length na0_1)) q1 (by simp [go_sem])
  have ca0_3 := carry (b := w.heap.size) (o := 3) (v := (Value.slice Aa0_2 (ds).length na0_2)) q1 (by simp [go_sem])
  have ca0_4 := carry (b := w.heap.size) (o := 4) (v := .int .i64 m) q1 (by simp [go_sem])
  have hb : Below w.heap.size w w1 := b1
  by_cases hneg0 : r0 < 0
  · go_wp2_with fail
    go_ret
    exact ⟨rfl, hb⟩
  have hlen0 : szTheatre cs pl ds ≤ 1048576 := by have := Ht0.out (by omega); omega
  go_wp2_with fail
  refine (toTheatre_any n m (Value.slice Aa0_0 (cs).length na0_0) (Value.slice Aa0_1 (pl).length na0_1) (Value.slice Aa0_2 (ds).length na0_2) cs pl ds _ (h0.below (by first | exact hb | exact hb.alloc hb.size _ | (repeat' (first | exact Below.refl _ _ | (refine Below.setCell ?_ (by first | omega | (simp; omega) | (simp; done)) _) | (refine Below.alloc ?_ (by first | omega | (simp; omega) | (simp; done)) _) | (refine Below.drew ?_) | (refine below_drewN ?_ _) | (refine Below.trans ?_ (Below.mono (by assumption) (by first | omega | (simp; omega) | (simp; done)))))))) hlen0).mono ?_
  rintro e w2 ⟨vs0_1, vs0_2, vs0_3, Ss0, rfl, os0, fs0, q2⟩
  obtain ⟨⟨As0_0, ns0_0, rfl⟩, ⟨As0_1, ns0_1, rfl⟩, ⟨As0_2, ns0_2, rfl⟩⟩ := os0.rd.forms
  have b2 : Below w1.heap.size w1 w2 := q2
  have z2 : w1.heap.size + 0 ≤ w2.heap.size := by have := q2.size; (try simp at this); omega
  replace ca0_0 := carry b2 ca0_0
  replace ca0_1 := carry b2 ca0_1
  replace ca0_2 := carry b2 ca0_2
  replace ca0_3 := carry b2 ca0_3
  replace ca0_4 := carry b2 ca0_4
  replace hb : Below w.heap.size w w2 := bl_trans hb b2
  replace fs0 := fresh_mono (B' := w1.heap.size + 0) fs0 (by first | exact Nat.le_refl _ | (simp; done) | (simp; omega)) (Nat.le_refl _)
  go_wp2_with fail
  refine (C1.out _ _ _ _ (os0.rd.below (by first | exact Below.refl _ _ | (repeat' (first | exact Below.refl _ _ | (refine Below.setCell ?_ (by first | omega | (simp; omega) | (simp; done)) _) | (refine Below.alloc ?_ (by first | omega | (simp; omega) | (simp; done)) _) | (refine Below.drew ?_) | (refine below_drewN ?_ _) | (refine Below.trans ?_ (Below.mono (by assumption) (by first | omega | (simp; omega) | (simp; done)))))))) hlen0).mono ?_
  rintro e w3 ⟨vw0_1, vw0_2, vw0_3, Sw0, rfl, ow0, fw0, q3⟩
  obtain ⟨⟨Aw0_0, nw0_0, rfl⟩, ⟨Aw0_1, nw0_1, rfl⟩, ⟨Aw0_2, nw0_2, rfl⟩⟩ := ow0.rd.forms
  have b3 : Below w2.heap.size w2 w3 := q3
  have z3 : w2.heap.size + 0 ≤ w3.heap.size := by have := q3.size; (try simp at this); omega
  replace ca0_0 := carry b3 ca0_0
  replace ca0_1 := carry b3 ca0_1
  replace ca0_2 := carry b3 ca0_2
  replace ca0_3 := carry b3 ca0_3
  replace ca0_4 := carry b3 ca0_4
  replace os0 := os0.below b3
  replace hb : Below w.heap.size w w3 := bl_trans hb b3
  replace fw0 := fresh_mono (B' := w2.heap.size + 0) fw0 (by first | exact Nat.le_refl _ | (simp; done) | (simp; omega)) (Nat.le_refl _)
  have ja0_0 := (cell_alloc (.cells #[.int .i64 n', (Value.slice Aw0_0 (cs').length nw0_0), (Value.slice Aw0_1 (pl').length nw0_1), (Value.slice Aw0_2 (ds').length nw0_2), .int .i64 m'] 58) ca0_0)
  have ja0_1 := (cell_alloc (.cells #[.int .i64 n', (Value.slice Aw0_0 (cs').length nw0_0), (Value.slice Aw0_1 (pl').length nw0_1), (Value.slice Aw0_2 (ds').length nw0_2), .int .i64 m'] 58) ca0_1)
  have ja0_2 := (cell_alloc (.cells #[.int .i64 n', (Value.slice Aw0_0 (cs').length nw0_0), (Value.slice Aw0_1 (pl').length nw0_1), (Value.slice Aw0_2 (ds').length nw0_2), .int .i64 m'] 58) ca0_2)
  have ja0_3 := (cell_alloc (.cells #[.int .i64 n', (Value.slice Aw0_0 (cs').length nw0_0), (Value.slice Aw0_1 (pl').length nw0_1), (Value.slice Aw0_2 (ds').length nw0_2), .int .i64 m'] 58) ca0_3)
  have ja0_4 := (cell_alloc (.cells #[.int .i64 n', (Value.slice Aw0_0 (cs').length nw0_0), (Value.slice Aw0_1 (pl').length nw0_1), (Value.slice Aw0_2 (ds').length nw0_2), .int .i64 m'] 58) ca0_4)
  go_wp2_with fail
  refine (toTheatre_any n m (Value.slice Aa0_0 (cs).length na0_0) (Value.slice Aa0_1 (pl).length na0_1) (Value.slice Aa0_2 (ds).length na0_2) cs pl ds _ (h0.below (by first | exact hb | exact hb.alloc hb.size _ | (repeat' (first | exact Below.refl _ _ | (refine Below.setCell ?_ (by first | omega | (simp; omega) | (simp; done)) _) | (refine Below.alloc ?_ (by first | omega | (simp; omega) | (simp; done)) _) | (refine Below.drew ?_) | (refine below_drewN ?_ _) | (refine Below.trans ?_ (Below.mono (by assumption) (by first | omega | (simp; omega) | (simp; done)))))))) hlen0).mono ?_
  rintro e w4 ⟨vx0_1, vx0_2, vx0_3, Sx0, rfl, ox0, fx0, q4⟩
  clear ja0_0 ja0_1 ja0_2 ja0_3 ja0_4
  obtain ⟨⟨Ax0_0, nx0_0, rfl⟩, ⟨Ax0_1, nx0_1, rfl⟩, ⟨Ax0_2, nx0_2, rfl⟩⟩ := ox0.rd.forms
  have b4 : Below w3.heap.size w3 w4 := (bl_alloc q4)
  have z4 : w3.heap.size + 1 ≤ w4.heap.size := by have := q4.size; (try simp at this); omega
  have cw0_0 := carry (b := w3.heap.size) (o := 0) (v := .int .i64 n') q4 (by simp [go_sem])
  have cw0_1 := carry (b := w3.heap.size) (o := 1) (v := (Value.slice Aw0_0 (cs').length nw0_0)) q4 (by simp [go_sem])
  have cw0_2 := carry (b := w3.heap.size) (o := 2) (v := (Value.slice Aw0_1 (pl').length nw0_1)) q4 (by simp [go_sem])
  have cw0_3 := carry (b := w3.heap.size) (o := 3) (v := (Value.slice Aw0_2 (ds').length nw0_2)) q4 (by simp [go_sem])
  have cw0_4 := carry (b := w3.heap.size) (o := 4) (v := .int .i64 m') q4 (by simp [go_sem])
  replace ca0_0 := carry b4 ca0_0
  replace ca0_1 := carry b4 ca0_1
  replace ca0_2 := carry b4 ca0_2
  replace ca0_3 := carry b4 ca0_3
  replace ca0_4 := carry b4 ca0_4
  replace ow0 := ow0.below b4
  replace hb : Below w.heap.size w w4 := bl_trans hb b4
  replace fx0 := fresh_mono (B' := w3.heap.size + 1) fx0 (by first | exact Nat.le_refl _ | (simp; done) | (simp; omega)) (Nat.le_refl _)
  have ja0_0 := (cell_alloc (.cells #[.int .i64 n, (Value.slice Ax0_0 (cs).length nx0_0), (Value.slice Ax0_1 (pl).length nx0_1), (Value.slice Ax0_2 (ds).length nx0_2), .int .i64 m] 58) ca0_0)
  have ja0_1 := (cell_alloc (.cells #[.int .i64 n, (Value.slice Ax0_0 (cs).length nx0_0), (Value.slice Ax0_1 (pl).length nx0_1), (Value.slice Ax0_2 (ds).length nx0_2), .int .i64 m] 58) ca0_1)
  have ja0_2 := (cell_alloc (.cells #[.int .i64 n, (Value.slice Ax0_0 (cs).length nx0_0), (Value.slice Ax0_1 (pl).length nx0_1), (Value.slice Ax0_2 (ds).length nx0_2), .int .i64 m] 58) ca0_2)
  have ja0_3 := (cell_alloc (.cells #[.int .i64 n, (Value.slice Ax0_0 (cs).length nx0_0), (Value.slice Ax0_1 (pl).length nx0_1), (Value.slice Ax0_2 (ds).length nx0_2), .int .i64 m] 58) ca0_3)
  have ja0_4 := (cell_alloc (.cells #[.int .i64 n, (Value.slice Ax0_0 (cs).length nx0_0), (Value.slice Ax0_1 (pl).length nx0_1), (Value.slice Ax0_2 (ds).length nx0_2), .int .i64 m] 58) ca0_4)
  have jw0_0 := (cell_alloc (.cells #[.int .i64 n, (Value.slice Ax0_0 (cs).length nx0_0), (Value.slice Ax0_1 (pl).length nx0_1), (Value.slice Ax0_2 (ds).length nx0_2), .int .i64 m] 58) cw0_0)
  have jw0_1 := (cell_alloc (.cells #[.int .i64 n, (Value.slice Ax0_0 (cs).length nx0_0), (Value.slice Ax0_1 (pl).length nx0_1), (Value.slice Ax0_2 (ds).length nx0_2), .int .i64 m] 58) cw0_1)
  have jw0_2 := (cell_alloc (.cells #[.int .i64 n, (Value.slice Ax0_0 (cs).length nx0_0), (Value.slice Ax0_1 (pl).length nx0_1), (Value.slice Ax0_2 (ds).length nx0_2), .int .i64 m] 58) cw0_2)
  have jw0_3 := (cell_alloc (.cells #[.int .i64 n, (Value.slice Ax0_0 (cs).length nx0_0), (Value.slice Ax0_1 (pl).length nx0_1), (Value.slice Ax0_2 (ds).length nx0_2), .int .i64 m] 58) cw0_3)
  have jw0_4 := (cell_alloc (.cells #[.int .i64 n, (Value.slice Ax0_0 (cs).length nx0_0), (Value.slice Ax0_1 (pl).length nx0_1), (Value.slice Ax0_2 (ds).length nx0_2), .int .i64 m] 58) cw0_4)
  go_wp2_with fail
  refine (C2.out _ _ _ _ (ox0.rd.below (by first | exact Below.refl _ _ | (repeat' (first | exact Below.refl _ _ | (refine Below.setCell ?_ (by first | omega | (simp; omega) | (simp; done)) _) | (refine Below.alloc ?_ (by first | omega | (simp; omega) | (simp; done)) _) | (refine Below.drew ?_) | (refine below_drewN ?_ _) | (refine Below.trans ?_ (Below.mono (by assumption) (by first | omega | (simp; omega) | (simp; done)))))))) hlen0).mono ?_
  rintro e w5 ⟨vg0_1, vg0_2, vg0_3, Sg0, rfl, og0, fg0, q5⟩
  clear ja0_0 ja0_1 ja0_2 ja0_3 ja0_4 jw0_0 jw0_1 jw0_2 jw0_3 jw0_4
  obtain ⟨⟨Ag0_0, ng0_0, rfl⟩, ⟨Ag0_1, ng0_1, rfl⟩, ⟨Ag0_2, ng0_2, rfl⟩⟩ := og0.rd.forms
  have b5 : Below w4.heap.size w4 w5 := (bl_alloc q5)
  have z5 : w4.heap.size + 1 ≤ w5.heap.size := by have := q5.size; (try simp at this); omega
  have cx0_0 := carry (b := w4.heap.size) (o := 0) (v := .int .i64 n) q5 (by simp [go_sem])
  have cx0_1 := carry (b := w4.heap.size) (o := 1) (v := (Value.slice Ax0_0 (cs).length nx0_0)) q5 (by simp [go_sem])
  have cx0_2 := carry (b := w4.heap.size) (o := 2) (v := (Value.slice Ax0_1 (pl).length nx0_1)) q5 (by simp [go_sem])
  have cx0_3 := carry (b := w4.heap.size) (o := 3) (v := (Value.slice Ax0_2 (ds).length nx0_2)) q5 (by simp [go_sem])
  have cx0_4 := carry (b := w4.heap.size) (o := 4) (v := .int .i64 m) q5 (by simp [go_sem])
  replace ca0_0 := carry b5 ca0_0
  replace ca0_1 := carry b5 ca0_1
  replace ca0_2 := carry b5 ca0_2
  replace ca0_3 := carry b5 ca0_3
  replace ca0_4 := carry b5 ca0_4
  replace cw0_0 := carry b5 cw0_0
  replace cw0_1 := carry b5 cw0_1
  replace cw0_2 := carry b5 cw0_2
  replace cw0_3 := carry b5 cw0_3
  replace cw0_4 := carry b5 cw0_4
  replace ow0 := ow0.below b5
  replace ox0 := ox0.below b5
  replace hb : Below w.heap.size w w5 := bl_trans hb b5
  replace fg0 := fresh_mono (B' := w4.heap.size + 1) fg0 (by first | exact Nat.le_refl _ | (simp; done) | (simp; omega)) (Nat.le_refl _)
  have ja0_0 := (cell_alloc (.cells #[.int .i64 n', (Value.slice Ag0_0 (cs').length ng0_0), (Value.slice Ag0_1 (pl').length ng0_1), (Value.slice Ag0_2 (ds').length ng0_2), .int .i64 m'] 58) ca0_0)
  have ja0_1 := (cell_alloc (.cells #[.int .i64 n', (Value.slice Ag0_0 (cs').length ng0_0), (Value.slice Ag0_1 (pl').length ng0_1), (Value.slice Ag0_2 (ds').length ng0_2), .int .i64 m'] 58) ca0_1)
  have ja0_2 := (cell_alloc (.cells #[.int .i64 n', (Value.slice Ag0_0 (cs').length ng0_0), (Value.slice Ag0_1 (pl').length ng0_1), (Value.slice Ag0_2 (ds').length ng0_2), .int .i64 m'] 58) ca0_2)
  have ja0_3 := (cell_alloc (.cells #[.int .i64 n', (Value.slice Ag0_0 (cs').length ng0_0), (Value.slice Ag0_1 (pl').length ng0_1), (Value.slice Ag0_2 (ds').length ng0_2), .int .i64 m'] 58) ca0_3)
  have ja0_4 := (cell_alloc (.cells #[.int .i64 n', (Value.slice Ag0_0 (cs').length ng0_0), (Value.slice Ag0_1 (pl').length ng0_1), (Value.slice Ag0_2 (ds').length ng0_2), .int .i64 m'] 58) ca0_4)
  have jw0_0 := (cell_alloc (.cells #[.int .i64 n', (Value.slice Ag0_0 (cs').length ng0_0), (Value.slice Ag0_1 (pl').length ng0_1), (Value.slice Ag0_2 (ds').length ng0_2), .int .i64 m'] 58) cw0_0)
  have jw0_1 := (cell_alloc (.cells #[.int .i64 n', (Value.slice Ag0_0 (cs').length ng0_0), (Value.slice Ag0_1 (pl').length ng0_1), (Value.slice Ag0_2 (ds').length ng0_2), .int .i64 m'] 58) cw0_1)
  have jw0_2 := (cell_alloc (.cells #[.int .i64 n', (Value.slice Ag0_0 (cs').length ng0_0), (Value.slice Ag0_1 (pl').length ng0_1), (Value.slice Ag0_2 (ds').length ng0_2), .int .i64 m'] 58) cw0_2)
  have jw0_3 := (cell_alloc (.cells #[.int .i64 n', (Value.slice Ag0_0 (cs').length ng0_0), (Value.slice Ag0_1 (pl').length ng0_1), (Value.slice Ag0_2 (ds').length ng0_2), .int .i64 m'] 58) cw0_3)
  have jw0_4 := (cell_alloc (.cells #[.int .i64 n', (Value.slice Ag0_0 (cs').length ng0_0), (Value.slice Ag0_1 (pl').length ng0_1), (Value.slice Ag0_2 (ds').length ng0_2), .int .i64 m'] 58) cw0_4)
  have jx0_0 := (cell_alloc (.cells #[.int .i64 n', (Value.slice Ag0_0 (cs').length ng0_0), (Value.slice Ag0_1 (pl').length ng0_1), (Value.slice Ag0_2 (ds').length ng0_2), .int .i64 m'] 58) cx0_0)
  have jx0_1 := (cell_alloc (.cells #[.int .i64 n', (Value.slice Ag0_0 (cs').length ng0_0), (Value.slice Ag0_1 (pl').length ng0_1), (Value.slice Ag0_2 (ds').length ng0_2), .int .i64 m'] 58) cx0_1)
  have jx0_2 := (cell_alloc (.cells #[.int .i64 n', (Value.slice Ag0_0 (cs').length ng0_0), (Value.slice Ag0_1 (pl').length ng0_1), (Value.slice Ag0_2 (ds').length ng0_2), .int .i64 m'] 58) cx0_2)
  have jx0_3 := (cell_alloc (.cells #[.int .i64 n', (Value.slice Ag0_0 (cs').length ng0_0), (Value.slice Ag0_1 (pl').length ng0_1), (Value.slice Ag0_2 (ds').length ng0_2), .int .i64 m'] 58) cx0_3)
  have jx0_4 := (cell_alloc (.cells #[.int .i64 n', (Value.slice Ag0_0 (cs').length ng0_0), (Value.slice Ag0_1 (pl').length ng0_1), (Value.slice Ag0_2 (ds').length ng0_2), .int .i64 m'] 58) cx0_4)
  go_wp2_with fail
  refine (eqTheatre_any n' m' (Value.slice Ag0_0 (cs').length ng0_0) (Value.slice Ag0_1 (pl').length ng0_1) (Value.slice Ag0_2 (ds').length ng0_2) (Value.slice Aw0_0 (cs').length nw0_0) (Value.slice Aw0_1 (pl').length nw0_1) (Value.slice Aw0_2 (ds').length nw0_2) cs' pl' ds' _ (og0.rd.below (by (repeat' (first | exact Below.refl _ _ | (refine Below.setCell ?_ (by first | omega | (simp; omega) | (simp; done)) _) | (refine Below.alloc ?_ (by first | omega | (simp; omega) | (simp; done)) _) | (refine Below.drew ?_) | (refine below_drewN ?_ _) | (refine Below.trans ?_ (Below.mono (by assumption) (by first | omega | (simp; omega) | (simp; done)))))))) (ow0.rd.below (by (repeat' (first | exact Below.refl _ _ | (refine Below.setCell ?_ (by first | omega | (simp; omega) | (simp; done)) _) | (refine Below.alloc ?_ (by first | omega | (simp; omega) | (simp; done)) _) | (refine Below.drew ?_) | (refine below_drewN ?_ _) | (refine Below.trans ?_ (Below.mono (by assumption) (by first | omega | (simp; omega) | (simp; done))))))))).mono ?_
  rintro e w6 ⟨rfl, q6⟩
  clear ja0_0 ja0_1 ja0_2 ja0_3 ja0_4 jw0_0 jw0_1 jw0_2 jw0_3 jw0_4 jx0_0 jx0_1 jx0_2 jx0_3 jx0_4
  have b6 : Below w5.heap.size w5 w6 := (bl_alloc q6)
  have z6 : w5.heap.size + 1 ≤ w6.heap.size := by have := q6.size; (try simp at this); omega
  have cg0_0 := carry (b := w5.heap.size) (o := 0) (v := .int .i64 n') q6 (by simp [go_sem])
  have cg0_1 := carry (b := w5.heap.size) (o := 1) (v := (Value.slice Ag0_0 (cs').length ng0_0)) q6 (by simp [go_sem])
  have cg0_2 := carry (b := w5.heap.size) (o := 2) (v := (Value.slice Ag0_1 (pl').length ng0_1)) q6 (by simp [go_sem])
  have cg0_3 := carry (b := w5.heap.size) (o := 3) (v := (Value.slice Ag0_2 (ds').length ng0_2)) q6 (by simp [go_sem])
  have cg0_4 := carry (b := w5.heap.size) (o := 4) (v := .int .i64 m') q6 (by simp [go_sem])
  replace ca0_0 := carry b6 ca0_0
  replace ca0_1 := carry b6 ca0_1
  replace ca0_2 := carry b6 ca0_2
  replace ca0_3 := carry b6 ca0_3
  replace ca0_4 := carry b6 ca0_4
  replace cw0_0 := carry b6 cw0_0
  replace cw0_1 := carry b6 cw0_1
  replace cw0_2 := carry b6 cw0_2
  replace cw0_3 := carry b6 cw0_3
  replace cw0_4 := carry b6 cw0_4
  replace cx0_0 := carry b6 cx0_0
  replace cx0_1 := carry b6 cx0_1
  replace cx0_2 := carry b6 cx0_2
  replace cx0_3 := carry b6 cx0_3
  replace cx0_4 := carry b6 cx0_4
  replace ow0 := ow0.below b6
  replace ox0 := ox0.below b6
  replace og0 := og0.below b6
  replace hb : Below w.heap.size w w6 := bl_trans hb b6
  go_wp2_with fail
  go_region_held3 (fun w' => w'.cell? ⟨w4.heap.size, 0, none⟩ = some (.int .i64 n) ∧ w'.cell? ⟨w4.heap.size, 1, none⟩ = some ((Value.slice Ax0_0 (cs).length nx0_0)) ∧ w'.cell? ⟨w4.heap.size, 2, none⟩ = some ((Value.slice Ax0_1 (pl).length nx0_1)) ∧ w'.cell? ⟨w4.heap.size, 3, none⟩ = some ((Value.slice Ax0_2 (ds).length nx0_2)) ∧ w'.cell? ⟨w4.heap.size, 4, none⟩ = some (.int .i64 m) ∧ w'.cell? ⟨w.heap.size, 0, none⟩ = some (.int .i64 n) ∧ w'.cell? ⟨w.heap.size, 1, none⟩ = some ((Value.slice Aa0_0 (cs).length na0_0)) ∧ w'.cell? ⟨w.heap.size, 2, none⟩ = some ((Value.slice Aa0_1 (pl).length na0_1)) ∧ w'.cell? ⟨w.heap.size, 3, none⟩ = some ((Value.slice Aa0_2 (ds).length na0_2)) ∧ w'.cell? ⟨w.heap.size, 4, none⟩ = some (.int .i64 m)) (exact ⟨cx0_0, cx0_1, cx0_2, cx0_3, cx0_4, ca0_0, ca0_1, ca0_2, ca0_3, ca0_4⟩) (first | (go_at_call 30; refine (toTheatre_any n m (Value.slice Aa0_0 (cs).length na0_0) (Value.slice Aa0_1 (pl).length na0_1) (Value.slice Aa0_2 (ds).length na0_2) cs pl ds _ (h0.below (by first | exact hb | exact hb.drew | exact below_drewN hb _)) hlen0).mono ?_; rintro e w7 ⟨vy0_1, vy0_2, vy0_3, Sy0, rfl, oy0, fy0, q7⟩; obtain ⟨⟨Ay0_0, ny0_0, rfl⟩, ⟨Ay0_1, ny0_1, rfl⟩, ⟨Ay0_2, ny0_2, rfl⟩⟩ := oy0.rd.forms; have b7 : Below w6.heap.size w6 w7 := (by first | exact q7 | exact ((Below.refl _ _).drew).trans q7 | exact (below_drewN (Below.refl _ _) _).trans q7); have z7 := b7.size; replace ca0_0 := carry b7 ca0_0; replace ca0_1 := carry b7 ca0_1; replace ca0_2 := carry b7 ca0_2; replace ca0_3 := carry b7 ca0_3; replace ca0_4 := carry b7 ca0_4; replace cw0_0 := carry b7 cw0_0; replace cw0_1 := carry b7 cw0_1; replace cw0_2 := carry b7 cw0_2; replace cw0_3 := carry b7 cw0_3; replace cw0_4 := carry b7 cw0_4; replace cx0_0 := carry b7 cx0_0; replace cx0_1 := carry b7 cx0_1; replace cx0_2 := carry b7 cx0_2; replace cx0_3 := carry b7 cx0_3; replace cx0_4 := carry b7 cx0_4; replace cg0_0 := carry b7 cg0_0; replace cg0_1 := carry b7 cg0_1; replace cg0_2 := carry b7 cg0_2; replace cg0_3 := carry b7 cg0_3; replace cg0_4 := carry b7 cg0_4; replace ow0 := ow0.below b7; replace ox0 := ox0.below b7; replace og0 := og0.below b7; replace hb : Below w.heap.size w w7 := bl_trans hb b7) | (go_at_call 32; refine (eqTheatre_any n m (Value.slice Ax0_0 (cs).length nx0_0) (Value.slice Ax0_1 (pl).length nx0_1) (Value.slice Ax0_2 (ds).length nx0_2) (Value.slice Ay0_0 (cs).length ny0_0) (Value.slice Ay0_1 (pl).length ny0_1) (Value.slice Ay0_2 (ds).length ny0_2) cs pl ds _ ox0.rd oy0.rd).mono ?_; rintro e w8 ⟨rfl, q8⟩; have b8 : Below w7.heap.size w7 w8 := (by first | exact q8 | exact ((Below.refl _ _).drew).trans q8 | exact (below_drewN (Below.refl _ _) _).trans q8); have z8 := b8.size; replace ca0_0 := carry b8 ca0_0; replace ca0_1 := carry b8 ca0_1; replace ca0_2 := carry b8 ca0_2; replace ca0_3 := carry b8 ca0_3; replace ca0_4 := carry b8 ca0_4; replace cw0_0 := carry b8 cw0_0; replace cw0_1 := carry b8 cw0_1; replace cw0_2 := carry b8 cw0_2; replace cw0_3 := carry b8 cw0_3; replace cw0_4 := carry b8 cw0_4; replace cx0_0 := carry b8 cx0_0; replace cx0_1 := carry b8 cx0_1; replace cx0_2 := carry b8 cx0_2; replace cx0_3 := carry b8 cx0_3; replace cx0_4 := carry b8 cx0_4; replace cg0_0 := carry b8 cg0_0; replace cg0_1 := carry b8 cg0_1; replace cg0_2 := carry b8 cg0_2; replace cg0_3 := carry b8 cg0_3; replace cg0_4 := carry b8 cg0_4; replace ow0 := ow0.below b8; replace ox0 := ox0.below b8; replace og0 := og0.below b8; replace oy0 := oy0.below b8; replace hb : Below w.heap.size w w8 := bl_trans hb b8))
  go_wp2_with fail
  refine (markTheatre_any n m (Value.slice Ax0_0 (cs).length nx0_0) (Value.slice Ax0_1 (pl).length nx0_1) (Value.slice Ax0_2 (ds).length nx0_2) cs pl ds 1 _ _ _ ox0 (fresh_mono fx0 (Nat.le_refl _) (by omega)) (by omega) (by omega)).mono ?_
  rintro e w9 ⟨rfl, mx0, q9⟩
  have z9 := q9.size
  replace ca0_0 := carryChg q9 ca0_0 (fresh_not fx0 (by omega))
  replace ca0_1 := carryChg q9 ca0_1 (fresh_not fx0 (by omega))
  replace ca0_2 := carryChg q9 ca0_2 (fresh_not fx0 (by omega))
  replace ca0_3 := carryChg q9 ca0_3 (fresh_not fx0 (by omega))
  replace ca0_4 := carryChg q9 ca0_4 (fresh_not fx0 (by omega))
  replace cw0_0 := carryChg q9 cw0_0 (fresh_not fx0 (by omega))
  replace cw0_1 := carryChg q9 cw0_1 (fresh_not fx0 (by omega))
  replace cw0_2 := carryChg q9 cw0_2 (fresh_not fx0 (by omega))
  replace cw0_3 := carryChg q9 cw0_3 (fresh_not fx0 (by omega))
  replace cw0_4 := carryChg q9 cw0_4 (fresh_not fx0 (by omega))
  replace cx0_0 := carryChg q9 cx0_0 (fresh_not fx0 (by omega))
  replace cx0_1 := carryChg q9 cx0_1 (fresh_not fx0 (by omega))
  replace cx0_2 := carryChg q9 cx0_2 (fresh_not fx0 (by omega))
  replace cx0_3 := carryChg q9 cx0_3 (fresh_not fx0 (by omega))
  replace cx0_4 := carryChg q9 cx0_4 (fresh_not fx0 (by omega))
  replace cg0_0 := carryChg q9 cg0_0 (fresh_not fx0 (by omega))
  replace cg0_1 := carryChg q9 cg0_1 (fresh_not fx0 (by omega))
  replace cg0_2 := carryChg q9 cg0_2 (fresh_not fx0 (by omega))
  replace cg0_3 := carryChg q9 cg0_3 (fresh_not fx0 (by omega))
  replace cg0_4 := carryChg q9 cg0_4 (fresh_not fx0 (by omega))
  replace ow0 := ow0.chg q9 (fresh_disj fw0 fx0 (by omega))
  replace og0 := og0.chg q9 (fresh_disj fg0 fx0 (by omega))
  replace hb : Below w.heap.size w w9 := Below.chg hb q9 (by omega) (fun b hb => by have := fx0.2 b hb; omega)
  go_wp2_with fail
  refine (eqTheatre_any n' m' (Value.slice Ag0_0 (cs').length ng0_0) (Value.slice Ag0_1 (pl').length ng0_1) (Value.slice Ag0_2 (ds').length ng0_2) (Value.slice Aw0_0 (cs').length nw0_0) (Value.slice Aw0_1 (pl').length nw0_1) (Value.slice Aw0_2 (ds').length nw0_2) cs' pl' ds' _ (og0.rd.below (by (repeat' (first | exact Below.refl _ _ | (refine Below.setCell ?_ (by first | omega | (simp; omega) | (simp; done)) _) | (refine Below.alloc ?_ (by first | omega | (simp; omega) | (simp; done)) _) | (refine Below.drew ?_) | (refine below_drewN ?_ _) | (refine Below.trans ?_ (Below.mono (by assumption) (by first | omega | (simp; omega) | (simp; done)))))))) (ow0.rd.below (by (repeat' (first | exact Below.refl _ _ | (refine Below.setCell ?_ (by first | omega | (simp; omega) | (simp; done)) _) | (refine Below.alloc ?_ (by first | omega | (simp; omega) | (simp; done)) _) | (refine Below.drew ?_) | (refine below_drewN ?_ _) | (refine Below.trans ?_ (Below.mono (by assumption) (by first | omega | (simp; omega) | (simp; done))))))))).mono ?_
  rintro e w10 ⟨rfl, q10⟩
  have b10 : Below w9.heap.size w9 w10 := q10
  have z10 : w9.heap.size + 0 ≤ w10.heap.size := by have := q10.size; (try simp at this); omega
  replace ca0_0 := carry b10 ca0_0
  replace ca0_1 := carry b10 ca0_1
  replace ca0_2 := carry b10 ca0_2
  replace ca0_3 := carry b10 ca0_3
  replace ca0_4 := carry b10 ca0_4
  replace cw0_0 := carry b10 cw0_0
  replace cw0_1 := carry b10 cw0_1
  replace cw0_2 := carry b10 cw0_2
  replace cw0_3 := carry b10 cw0_3
  replace cw0_4 := carry b10 cw0_4
  replace cx0_0 := carry b10 cx0_0
  replace cx0_1 := carry b10 cx0_1
  replace cx0_2 := carry b10 cx0_2
  replace cx0_3 := carry b10 cx0_3
  replace cx0_4 := carry b10 cx0_4
  replace cg0_0 := carry b10 cg0_0
  replace cg0_1 := carry b10 cg0_1
  replace cg0_2 := carry b10 cg0_2
  replace cg0_3 := carry b10 cg0_3
  replace cg0_4 := carry b10 cg0_4
  replace ow0 := ow0.below b10
  replace og0 := og0.below b10
  replace hb : Below w.heap.size w w10 := bl_trans hb b10
  go_wp2_with fail
  refine (markTheatre_any n' m' (Value.slice Ag0_0 (cs').length ng0_0) (Value.slice Ag0_1 (pl').length ng0_1) (Value.slice Ag0_2 (ds').length ng0_2) cs' pl' ds' 1 _ _ _ og0 (fresh_mono fg0 (Nat.le_refl _) (by omega)) (by omega) (by omega)).mono ?_
  rintro e w11 ⟨rfl, mg0, q11⟩
  have z11 := q11.size
  replace ca0_0 := carryChg q11 ca0_0 (fresh_not fg0 (by omega))
  replace ca0_1 := carryChg q11 ca0_1 (fresh_not fg0 (by omega))
  replace ca0_2 := carryChg q11 ca0_2 (fresh_not fg0 (by omega))
  replace ca0_3 := carryChg q11 ca0_3 (fresh_not fg0 (by omega))
  replace ca0_4 := carryChg q11 ca0_4 (fresh_not fg0 (by omega))
  replace cw0_0 := carryChg q11 cw0_0 (fresh_not fg0 (by omega))
  replace cw0_1 := carryChg q11 cw0_1 (fresh_not fg0 (by omega))
  replace cw0_2 := carryChg q11 cw0_2 (fresh_not fg0 (by omega))
  replace cw0_3 := carryChg q11 cw0_3 (fresh_not fg0 (by omega))
  replace cw0_4 := carryChg q11 cw0_4 (fresh_not fg0 (by omega))
  replace cx0_0 := carryChg q11 cx0_0 (fresh_not fg0 (by omega))
  replace cx0_1 := carryChg q11 cx0_1 (fresh_not fg0 (by omega))
  replace cx0_2 := carryChg q11 cx0_2 (fresh_not fg0 (by omega))
  replace cx0_3 := carryChg q11 cx0_3 (fresh_not fg0 (by omega))
  replace cx0_4 := carryChg q11 cx0_4 (fresh_not fg0 (by omega))
  replace cg0_0 := carryChg q11 cg0_0 (fresh_not fg0 (by omega))
  replace cg0_1 := carryChg q11 cg0_1 (fresh_not fg0 (by omega))
  replace cg0_2 := carryChg q11 cg0_2 (fresh_not fg0 (by omega))
  replace cg0_3 := carryChg q11 cg0_3 (fresh_not fg0 (by omega))
  replace cg0_4 := carryChg q11 cg0_4 (fresh_not fg0 (by omega))
  replace ow0 := ow0.chg q11 (fresh_disj fw0 fg0 (by omega))
  replace hb : Below w.heap.size w w11 := Below.chg hb q11 (by omega) (fun b hb => by have := fg0.2 b hb; omega)
  go_wp2_with fail
  refine (heldTheatre_any n' m' (Value.slice Ag0_0 (cs').length ng0_0) (Value.slice Ag0_1 (pl').length ng0_1) (Value.slice Ag0_2 (ds').length ng0_2) cs' pl' ds' 1 _ _ (mg0.below (by (repeat' (first | exact Below.refl _ _ | (refine Below.setCell ?_ (by first | omega | (simp; omega) | (simp; done)) _) | (refine Below.alloc ?_ (by first | omega | (simp; omega) | (simp; done)) _) | (refine Below.drew ?_) | (refine below_drewN ?_ _) | (refine Below.trans ?_ (Below.mono (by assumption) (by first | omega | (simp; omega) | (simp; done)))))))) (by omega) (by omega)).mono ?_
  rintro e w12 ⟨rfl, q12⟩
  have b12 : Below w11.heap.size w11 w12 := q12
  have z12 : w11.heap.size + 0 ≤ w12.heap.size := by have := q12.size; (try simp at this); omega
  replace ca0_0 := carry b12 ca0_0
  replace ca0_1 := carry b12 ca0_1
  replace ca0_2 := carry b12 ca0_2
  replace ca0_3 := carry b12 ca0_3
  replace ca0_4 := carry b12 ca0_4
  replace cw0_0 := carry b12 cw0_0
  replace cw0_1 := carry b12 cw0_1
  replace cw0_2 := carry b12 cw0_2
  replace cw0_3 := carry b12 cw0_3
  replace cw0_4 := carry b12 cw0_4
  replace cx0_0 := carry b12 cx0_0
  replace cx0_1 := carry b12 cx0_1
  replace cx0_2 := carry b12 cx0_2
  replace cx0_3 := carry b12 cx0_3
  replace cx0_4 := carry b12 cx0_4
  replace cg0_0 := carry b12 cg0_0
  replace cg0_1 := carry b12 cg0_1
  replace cg0_2 := carry b12 cg0_2
  replace cg0_3 := carry b12 cg0_3
  replace cg0_4 := carry b12 cg0_4
  replace ow0 := ow0.below b12
  replace mg0 := mg0.below b12
  replace hb : Below w.heap.size w w12 := bl_trans hb b12
  go_wp2_with fail
  refine (toTheatre_any n m (Value.slice Aa0_0 (cs).length na0_0) (Value.slice Aa0_1 (pl).length na0_1) (Value.slice Aa0_2 (ds).length na0_2) cs pl ds _ (h0.below (by first | exact hb | exact hb.alloc hb.size _ | (repeat' (first | exact Below.refl _ _ | (refine Below.setCell ?_ (by first | omega | (simp; omega) | (simp; done)) _) | (refine Below.alloc ?_ (by first | omega | (simp; omega) | (simp; done)) _) | (refine Below.drew ?_) | (refine below_drewN ?_ _) | (refine Below.trans ?_ (Below.mono (by assumption) (by first | omega | (simp; omega) | (simp; done)))))))) hlen0).mono ?_
  rintro e w13 ⟨vu0_1, vu0_2, vu0_3, Su0, rfl, ou0, fu0, q13⟩
  obtain ⟨⟨Au0_0, nu0_0, rfl⟩, ⟨Au0_1, nu0_1, rfl⟩, ⟨Au0_2, nu0_2, rfl⟩⟩ := ou0.rd.forms
  have b13 : Below w12.heap.size w12 w13 := q13
  have z13 : w12.heap.size + 0 ≤ w13.heap.size := by have := q13.size; (try simp at this); omega
  replace ca0_0 := carry b13 ca0_0
  replace ca0_1 := carry b13 ca0_1
  replace ca0_2 := carry b13 ca0_2
  replace ca0_3 := carry b13 ca0_3
  replace ca0_4 := carry b13 ca0_4
  replace cw0_0 := carry b13 cw0_0
  replace cw0_1 := carry b13 cw0_1
  replace cw0_2 := carry b13 cw0_2
  replace cw0_3 := carry b13 cw0_3
  replace cw0_4 := carry b13 cw0_4
  replace cx0_0 := carry b13 cx0_0
  replace cx0_1 := carry b13 cx0_1
  replace cx0_2 := carry b13 cx0_2
  replace cx0_3 := carry b13 cx0_3
  replace cx0_4 := carry b13 cx0_4
  replace cg0_0 := carry b13 cg0_0
  replace cg0_1 := carry b13 cg0_1
  replace cg0_2 := carry b13 cg0_2
  replace cg0_3 := carry b13 cg0_3
  replace cg0_4 := carry b13 cg0_4
  replace ow0 := ow0.below b13
  replace mg0 := mg0.below b13
  replace hb : Below w.heap.size w w13 := bl_trans hb b13
  replace fu0 := fresh_mono (B' := w12.heap.size + 0) fu0 (by first | exact Nat.le_refl _ | (simp; done) | (simp; omega)) (Nat.le_refl _)
  go_wp2_with fail
  refine (C2.out _ _ _ _ (ou0.rd.below (by first | exact Below.refl _ _ | (repeat' (first | exact Below.refl _ _ | (refine Below.setCell ?_ (by first | omega | (simp; omega) | (simp; done)) _) | (refine Below.alloc ?_ (by first | omega | (simp; omega) | (simp; done)) _) | (refine Below.drew ?_) | (refine below_drewN ?_ _) | (refine Below.trans ?_ (Below.mono (by assumption) (by first | omega | (simp; omega) | (simp; done)))))))) hlen0).mono ?_
  rintro e w14 ⟨vh0_1, vh0_2, vh0_3, Sh0, rfl, oh0, fh0, q14⟩
  obtain ⟨⟨Ah0_0, nh0_0, rfl⟩, ⟨Ah0_1, nh0_1, rfl⟩, ⟨Ah0_2, nh0_2, rfl⟩⟩ := oh0.rd.forms
  have b14 : Below w13.heap.size w13 w14 := q14
  have z14 : w13.heap.size + 0 ≤ w14.heap.size := by have := q14.size; (try simp at this); omega
  replace ca0_0 := carry b14 ca0_0
  replace ca0_1 := carry b14 ca0_1
  replace ca0_2 := carry b14 ca0_2
  replace ca0_3 := carry b14 ca0_3
  replace ca0_4 := carry b14 ca0_4
  replace cw0_0 := carry b14 cw0_0
  replace cw0_1 := carry b14 cw0_1
  replace cw0_2 := carry b14 cw0_2
  replace cw0_3 := carry b14 cw0_3
  replace cw0_4 := carry b14 cw0_4
  replace cx0_0 := carry b14 cx0_0
  replace cx0_1 := carry b14 cx0_1
  replace cx0_2 := carry b14 cx0_2
  replace cx0_3 := carry b14 cx0_3
  replace cx0_4 := carry b14 cx0_4
  replace cg0_0 := carry b14 cg0_0
  replace cg0_1 := carry b14 cg0_1
  replace cg0_2 := carry b14 cg0_2
  replace cg0_3 := carry b14 cg0_3
  replace cg0_4 := carry b14 cg0_4
  replace ow0 := ow0.below b14
  replace mg0 := mg0.below b14
  replace ou0 := ou0.below b14
  replace hb : Below w.heap.size w w14 := bl_trans hb b14
  replace fh0 := fresh_mono (B' := w13.heap.size + 0) fh0 (by first | exact Nat.le_refl _ | (simp; done) | (simp; omega)) (Nat.le_refl _)
  have ja0_0 := (cell_alloc (.cells #[.int .i64 n', (Value.slice Ah0_0 (cs').length nh0_0), (Value.slice Ah0_1 (pl').length nh0_1), (Value.slice Ah0_2 (ds').length nh0_2), .int .i64 m'] 58) ca0_0)
  have ja0_1 := (cell_alloc (.cells #[.int .i64 n', (Value.slice Ah0_0 (cs').length nh0_0), (Value.slice Ah0_1 (pl').length nh0_1), (Value.slice Ah0_2 (ds').length nh0_2), .int .i64 m'] 58) ca0_1)
  have ja0_2 := (cell_alloc (.cells #[.int .i64 n', (Value.slice Ah0_0 (cs').length nh0_0), (Value.slice Ah0_1 (pl').length nh0_1), (Value.slice Ah0_2 (ds').length nh0_2), .int .i64 m'] 58) ca0_2)
  have ja0_3 := (cell_alloc (.cells #[.int .i64 n', (Value.slice Ah0_0 (cs').length nh0_0), (Value.slice Ah0_1 (pl').length nh0_1), (Value.slice Ah0_2 (ds').length nh0_2), .int .i64 m'] 58) ca0_3)
  have ja0_4 := (cell_alloc (.cells #[.int .i64 n', (Value.slice Ah0_0 (cs').length nh0_0), (Value.slice Ah0_1 (pl').length nh0_1), (Value.slice Ah0_2 (ds').length nh0_2), .int .i64 m'] 58) ca0_4)
  have jw0_0 := (cell_alloc (.cells #[.int .i64 n', (Value.slice Ah0_0 (cs').length nh0_0), (Value.slice Ah0_1 (pl').length nh0_1), (Value.slice Ah0_2 (ds').length nh0_2), .int .i64 m'] 58) cw0_0)
  have jw0_1 := (cell_alloc (.cells #[.int .i64 n', (Value.slice Ah0_0 (cs').length nh0_0), (Value.slice Ah0_1 (pl').length nh0_1), (Value.slice Ah0_2 (ds').length nh0_2), .int .i64 m'] 58) cw0_1)
  have jw0_2 := (cell_alloc (.cells #[.int .i64 n', (Value.slice Ah0_0 (cs').length nh0_0), (Value.slice Ah0_1 (pl').length nh0_1), (Value.slice Ah0_2 (ds').length nh0_2), .int .i64 m'] 58) cw0_2)
  have jw0_3 := (cell_alloc (.cells #[.int .i64 n', (Value.slice Ah0_0 (cs').length nh0_0), (Value.slice Ah0_1 (pl').length nh0_1), (Value.slice Ah0_2 (ds').length nh0_2), .int .i64 m'] 58) cw0_3)
  have jw0_4 := (cell_alloc (.cells #[.int .i64 n', (Value.slice Ah0_0 (cs').length nh0_0), (Value.slice Ah0_1 (pl').length nh0_1), (Value.slice Ah0_2 (ds').length nh0_2), .int .i64 m'] 58) cw0_4)
  have jx0_0 := (cell_alloc (.cells #[.int .i64 n', (Value.slice Ah0_0 (cs').length nh0_0), (Value.slice Ah0_1 (pl').length nh0_1), (Value.slice Ah0_2 (ds').length nh0_2), .int .i64 m'] 58) cx0_0)
  have jx0_1 := (cell_alloc (.cells #[.int .i64 n', (Value.slice Ah0_0 (cs').length nh0_0), (Value.slice Ah0_1 (pl').length nh0_1), (Value.slice Ah0_2 (ds').length nh0_2), .int .i64 m'] 58) cx0_1)
  have jx0_2 := (cell_alloc (.cells #[.int .i64 n', (Value.slice Ah0_0 (cs').length nh0_0), (Value.slice Ah0_1 (pl').length nh0_1), (Value.slice Ah0_2 (ds').length nh0_2), .int .i64 m'] 58) cx0_2)
  have jx0_3 := (cell_alloc (.cells #[.int .i64 n', (Value.slice Ah0_0 (cs').length nh0_0), (Value.slice Ah0_1 (pl').length nh0_1), (Value.slice Ah0_2 (ds').length nh0_2), .int .i64 m'] 58) cx0_3)
  have jx0_4 := (cell_alloc (.cells #[.int .i64 n', (Value.slice Ah0_0 (cs').length nh0_0), (Value.slice Ah0_1 (pl').length nh0_1), (Value.slice Ah0_2 (ds').length nh0_2), .int .i64 m'] 58) cx0_4)
  have jg0_0 := (cell_alloc (.cells #[.int .i64 n', (Value.slice Ah0_0 (cs').length nh0_0), (Value.slice Ah0_1 (pl').length nh0_1), (Value.slice Ah0_2 (ds').length nh0_2), .int .i64 m'] 58) cg0_0)
  have jg0_1 := (cell_alloc (.cells #[.int .i64 n', (Value.slice Ah0_0 (cs').length nh0_0), (Value.slice Ah0_1 (pl').length nh0_1), (Value.slice Ah0_2 (ds').length nh0_2), .int .i64 m'] 58) cg0_1)
  have jg0_2 := (cell_alloc (.cells #[.int .i64 n', (Value.slice Ah0_0 (cs').length nh0_0), (Value.slice Ah0_1 (pl').length nh0_1), (Value.slice Ah0_2 (ds').length nh0_2), .int .i64 m'] 58) cg0_2)
  have jg0_3 := (cell_alloc (.cells #[.int .i64 n', (Value.slice Ah0_0 (cs').length nh0_0), (Value.slice Ah0_1 (pl').length nh0_1), (Value.slice Ah0_2 (ds').length nh0_2), .int .i64 m'] 58) cg0_3)
  have jg0_4 := (cell_alloc (.cells #[.int .i64 n', (Value.slice Ah0_0 (cs').length nh0_0), (Value.slice Ah0_1 (pl').length nh0_1), (Value.slice Ah0_2 (ds').length nh0_2), .int .i64 m'] 58) cg0_4)
  go_wp2_with fail
  refine (eqTheatre_any n' m' (Value.slice Ah0_0 (cs').length nh0_0) (Value.slice Ah0_1 (pl').length nh0_1) (Value.slice Ah0_2 (ds').length nh0_2) (Value.slice Aw0_0 (cs').length nw0_0) (Value.slice Aw0_1 (pl').length nw0_1) (Value.slice Aw0_2 (ds').length nw0_2) cs' pl' ds' _ (oh0.rd.below (by (repeat' (first | exact Below.refl _ _ | (refine Below.setCell ?_ (by first | omega | (simp; omega) | (simp; done)) _) | (refine Below.alloc ?_ (by first | omega | (simp; omega) | (simp; done)) _) | (refine Below.drew ?_) | (refine below_drewN ?_ _) | (refine Below.trans ?_ (Below.mono (by assumption) (by first | omega | (simp; omega) | (simp; done)))))))) (ow0.rd.below (by (repeat' (first | exact Below.refl _ _ | (refine Below.setCell ?_ (by first | omega | (simp; omega) | (simp; done)) _) | (refine Below.alloc ?_ (by first | omega | (simp; omega) | (simp; done)) _) | (refine Below.drew ?_) | (refine below_drewN ?_ _) | (refine Below.trans ?_ (Below.mono (by assumption) (by first | omega | (simp; omega) | (simp; done))))))))).mono ?_
  rintro e w15 ⟨rfl, q15⟩
  clear ja0_0 ja0_1 ja0_2 ja0_3 ja0_4 jw0_0 jw0_1 jw0_2 jw0_3 jw0_4 jx0_0 jx0_1 jx0_2 jx0_3 jx0_4 jg0_0 jg0_1 jg0_2 jg0_3 jg0_4
  have b15 : Below w14.heap.size w14 w15 := (bl_alloc q15)
  have z15 : w14.heap.size + 1 ≤ w15.heap.size := by have := q15.size; (try simp at this); omega
  have ch0_0 := carry (b := w14.heap.size) (o := 0) (v := .int .i64 n') q15 (by simp [go_sem])
  have ch0_1 := carry (b := w14.heap.size) (o := 1) (v := (Value.slice Ah0_0 (cs').length nh0_0)) q15 (by simp [go_sem])
  have ch0_2 := carry (b := w14.heap.size) (o := 2) (v := (Value.slice Ah0_1 (pl').length nh0_1)) q15 (by simp [go_sem])
  have ch0_3 := carry (b := w14.heap.size) (o := 3) (v := (Value.slice Ah0_2 (ds').length nh0_2)) q15 (by simp [go_sem])
  have ch0_4 := carry (b := w14.heap.size) (o := 4) (v := .int .i64 m') q15 (by simp [go_sem])
  replace ca0_0 := carry b15 ca0_0
  replace ca0_1 := carry b15 ca0_1
  replace ca0_2 := carry b15 ca0_2
  replace ca0_3 := carry b15 ca0_3
  replace ca0_4 := carry b15 ca0_4
  replace cw0_0 := carry b15 cw0_0
  replace cw0_1 := carry b15 cw0_1
  replace cw0_2 := carry b15 cw0_2
  replace cw0_3 := carry b15 cw0_3
  replace cw0_4 := carry b15 cw0_4
  replace cx0_0 := carry b15 cx0_0
  replace cx0_1 := carry b15 cx0_1
  replace cx0_2 := carry b15 cx0_2
  replace cx0_3 := carry b15 cx0_3
  replace cx0_4 := carry b15 cx0_4
  replace cg0_0 := carry b15 cg0_0
  replace cg0_1 := carry b15 cg0_1
  replace cg0_2 := carry b15 cg0_2
  replace cg0_3 := carry b15 cg0_3
  replace cg0_4 := carry b15 cg0_4
  replace ow0 := ow0.below b15
  replace mg0 := mg0.below b15
  replace oh0 := oh0.below b15
  replace hb : Below w.heap.size w w15 := bl_trans hb b15
  go_wp2_with fail
  refine (heldTheatre_any n' m' (Value.slice Ag0_0 (cs').length ng0_0) (Value.slice Ag0_1 (pl').length ng0_1) (Value.slice Ag0_2 (ds').length ng0_2) cs' pl' ds' 1 _ _ (mg0.below (by (repeat' (first | exact Below.refl _ _ | (refine Below.setCell ?_ (by first | omega | (simp; omega) | (simp; done)) _) | (refine Below.alloc ?_ (by first | omega | (simp; omega) | (simp; done)) _) | (refine Below.drew ?_) | (refine below_drewN ?_ _) | (refine Below.trans ?_ (Below.mono (by assumption) (by first | omega | (simp; omega) | (simp; done)))))))) (by omega) (by omega)).mono ?_
  rintro e w16 ⟨rfl, q16⟩
  have b16 : Below w15.heap.size w15 w16 := q16
  have z16 : w15.heap.size + 0 ≤ w16.heap.size := by have := q16.size; (try simp at this); omega
  replace ca0_0 := carry b16 ca0_0
  replace ca0_1 := carry b16 ca0_1
  replace ca0_2 := carry b16 ca0_2
  replace ca0_3 := carry b16 ca0_3
  replace ca0_4 := carry b16 ca0_4
  replace cw0_0 := carry b16 cw0_0
  replace cw0_1 := carry b16 cw0_1
  replace cw0_2 := carry b16 cw0_2
  replace cw0_3 := carry b16 cw0_3
  replace cw0_4 := carry b16 cw0_4
  replace cx0_0 := carry b16 cx0_0
  replace cx0_1 := carry b16 cx0_1
  replace cx0_2 := carry b16 cx0_2
  replace cx0_3 := carry b16 cx0_3
  replace cx0_4 := carry b16 cx0_4
  replace cg0_0 := carry b16 cg0_0
  replace cg0_1 := carry b16 cg0_1
  replace cg0_2 := carry b16 cg0_2
  replace cg0_3 := carry b16 cg0_3
  replace cg0_4 := carry b16 cg0_4
  replace ch0_0 := carry b16 ch0_0
  replace ch0_1 := carry b16 ch0_1
  replace ch0_2 := carry b16 ch0_2
  replace ch0_3 := carry b16 ch0_3
  replace ch0_4 := carry b16 ch0_4
  replace ow0 := ow0.below b16
  replace mg0 := mg0.below b16
  replace oh0 := oh0.below b16
  replace hb : Below w.heap.size w w16 := bl_trans hb b16
  go_wp2_with fail
  go_ret
  exact ⟨rfl, hb⟩

set_option maxRecDepth 100000 in
set_option maxHeartbeats 1000000 in
theorem fnExactPutInOrder_lifted (os : Os) (started : os.Started) (H : Type) (enc : TypeId × Value → H) :
    ReturnsInHanded {} Try.checked os 7 .any (Rows.fnExactPutInOrderSpec.pre6 enc Try.prog Try.f7 Rows.fnExactPutInOrderRow.domain false) (Rows.fnExactPutInOrderSpec.post enc Try.prog Try.f7 false true false false) := by
  refine returnsInHanded_of_change (C := Try.checked) tryOwn started (by kernel_rfl) Try.func7
    (ChangeSpec.witness6 (enc := enc) (C := Try.checked) false ⟨#[], #[.agg #[.int .i64 0, .slice none 0 0, .slice none 0 0, .slice none 0 0, .int .i64 0]], []⟩ 12 (by kernel_rfl) (by kernel_rfl) (by kernel_rfl) (by kernel_rfl)) ?_
  intro W base args ds gs before hval0 hW hcnd _
  have hval : ∀ (j : Nat) t v, Try.f7.params[j]? = some t → args[j]? = some v → Value.okWide Try.prog W .any base t v := hval0
  have hW' := hW
  obtain ⟨p, q, hA0, hV, rfl, hfz, hnd⟩ := hW
  have hA : DataW.TrodAll enc Try.prog W 0 (fun _ => true) true Try.f7.params.toList args.toList ds p := hA0
  rw [Try.params7] at hA hval
  obtain ⟨v0, vs0, d0, ds0, p0, q0, hargs, rfl, rfl, h0, r0⟩ := trodAll_cons hA
  obtain ⟨rfl, rfl, rfl⟩ := trodAll_nil r0
  obtain rfl : args = #[v0] := by cases args; simp_all
  obtain ⟨rfl, rfl⟩ := trodVars_none hV
  have e0 := h0
  have lt0 : ∀ x ∈ p0, x.block < W.heap.size := by obtain ⟨m, hm⟩ := e0; exact DataW.trod_lt m _ _ _ hm
  have ok0 := hval 0 55 v0 rfl rfl
  clear hA0 hval0 hval
  obtain ⟨⟨⟨p0, q0, s0⟩, t0, m0⟩, rfl, hq0⟩ := arg_struct Try.underlying55 ok0 h0 opens_lawsTheatre
  obtain ⟨⟨_, ⟨d0, hd0, _⟩, hpp0⟩, ⟨y0, hy0, _⟩, wm0⟩ := hq0
  obtain ⟨k0, hk0, _⟩ := pls_of hpp0
  have h0' : RdTheatre W q0 s0 t0 d0 k0 y0 := ⟨⟨hd0, hk0⟩, hy0⟩
  refine (lawPutInOrder_any p0 m0 q0 s0 t0 d0 k0 y0 W h0').mono fun e W' ⟨he, bel⟩ => ?_
  subst he
  exact ⟨_, rfl, _, _, _, [], _, [], hW', trodAll_mk1 (shut_bool Try.underlying4 _), (trodAll_cons_mk (Below.trod tryLaid (by kernel_rfl) (of_decide_eq_true (by kernel_rfl)) e0 bel lt0) trodAll_mk0), rfl, bel.frame _, fun h => by cases h⟩

theorem fnExactPutInOrder_holds : Rows.FnExactPutInOrderSaid :=
  OpenClaim.holds_of_wide 7 Try.f7 rfl rfl rfl rfl rfl rfl rfl ⟨rfl, rfl, rfl, rfl, rfl⟩ rfl rfl rfl rfl rfl (by kernel_rfl) Try.func7 (by kernel_rfl)
    (of_decide_eq_true (by kernel_rfl)) (by unfold Func.isWrapper; first | (rw [if_pos (by decide +kernel)]; kernel_rfl) | (rw [if_neg (by decide +kernel)]; exact ⟨rfl, rfl⟩))
    (fun os started H enc _ => fnExactPutInOrder_lifted os started H enc)
#print axioms fnExactPutInOrder_holds
end Go.Proofs.Ytjbhlbcjljdjmaa
