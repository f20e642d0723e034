/- Contracts: LiftControl. Written by a program (gen_k1.py). -/
import Derived.Test.YtkejgogheonakaaCPControl
import Derived.Deep.DeepCutAuto
namespace Go.Proofs.Ytkejgogheonakaa
open Go.RowKit
def liftB (ht b : Int) : Bool := (inB ht (-500) 500 && inB b (-500) 500) && inB (ht + b) 0 500
def liftH (ht b : Int) : Int := if liftB ht b = true then ht + b else ht
theorem lift_f1 {ht b : Int} (h : inB ht (-500) 500 = false) : liftB ht b = false := by rw [liftB, h]; rfl
theorem lift_f2 {ht b : Int} (h : inB b (-500) 500 = false) : liftB ht b = false := by rw [liftB, h, Bool.and_false]; rfl
theorem lift_f3 {ht b : Int} (h : inB (ht + b) 0 500 = false) : liftB ht b = false := by rw [liftB, h, Bool.and_false]
theorem lift_t {ht b : Int} (h1 : inB ht (-500) 500 = true) (h2 : inB b (-500) 500 = true) (h3 : inB (ht + b) 0 500 = true) : liftB ht b = true := by rw [liftB, h1, h2, h3]; rfl
def RetControl (ht : Int) (ok : Bool) (d1 : List Int) (d2 : List RCord) (w : World) (e : Ending) (w' : World) : Prop :=
  ∃ x1 x2 S, e = .returned (.tuple #[.agg #[.int .i64 ht, x1, x2], .bool ok]) ∧ OwControl w' S x1 x2 d1 d2 ∧ Fresh w.heap.size w' S ∧ Below w.heap.size w w'
theorem retControl_f {ht b : Int} {d1 : List Int} {d2 : List RCord} {w w' : World} {e : Ending} (h : liftB ht b = false) (hr : RetControl ht false d1 d2 w e w') : RetControl (liftH ht b) (liftB ht b) d1 d2 w e w' := by rw [liftH, h]; exact hr
theorem retControl_t {ht b : Int} {d1 : List Int} {d2 : List RCord} {w w' : World} {e : Ending} (h : liftB ht b = true) (hr : RetControl (ht + b) true d1 d2 w e w') : RetControl (liftH ht b) (liftB ht b) d1 d2 w e w' := by rw [liftH, h]; exact hr
set_option maxHeartbeats 4000000 in
set_option maxRecDepth 100000 in
theorem implLiftControl_any (ht b : Int) (v1 v2 : Value) (d1 : List Int) (d2 : List RCord) (w : World) (h : RdControl w v1 v2 d1 d2) (hl : szControl d1 d2 ≤ 1048576) :
    Calls Try.prog 25 #[.agg #[.int .i64 ht, v1, v2], .int .i64 b] w (RetControl (liftH ht b) (liftB ht b) d1 d2 w) := by
  obtain ⟨⟨A1, n1, rfl⟩, ⟨A2, n2, rfl⟩⟩ := h.forms
  go_enter Try.func25, Try.ntmps25
  go_wp2_with fail
  refine (controlCopied_any ht _ _ d1 d2 _ (h.below (by (repeat' (first | (with_reducible exact Below.refl _ _) | (with_reducible assumption) | (with_reducible refine Below.setCell ?_ (by first | omega | (simp; omega) | (simp; done)) _) | (with_reducible refine Below.alloc ?_ (by first | omega | (simp; omega) | (simp; done)) _) | (with_reducible refine Below.drew ?_) | (with_reducible refine below_drewN ?_ _))))) hl).mono ?_
  rintro e w1 ⟨x1, x2, S, rfl, ow, f1, q1⟩
  obtain ⟨⟨B1, k1, rfl⟩, ⟨B2, k2, rfl⟩⟩ := ow.rd.forms
  have z1 := q1.size
  simp at z1
  have hb : Below w.heap.size w w1 := Below.trans (by (repeat' (first | (with_reducible exact Below.refl _ _) | (with_reducible assumption) | (with_reducible refine Below.setCell ?_ (by first | omega | (simp; omega) | (simp; done)) _) | (with_reducible refine Below.alloc ?_ (by first | omega | (simp; omega) | (simp; done)) _) | (with_reducible refine Below.drew ?_) | (with_reducible refine below_drewN ?_ _)))) (q1.mono (by simp <;> omega))
  replace f1 := fresh_mono (B' := w.heap.size + 1 + 1) f1 (by simp) (Nat.le_refl _)
  have Lc : Loc w1 (w.heap.size) [.int .i64 ht, .slice A1 d1.length n1, .slice A2 d2.length n2] := ((Loc.new w #[.int .i64 ht, .slice A1 d1.length n1, .slice A2 d2.length n2] 34).alloc _).below q1
  have Lr : Loc w1 (w.heap.size + 1) [.int .i64 0, .slice none 0 0, .slice none 0 0] := by
    have := (Loc.new (w.alloc (.cells #[.int .i64 ht, .slice A1 d1.length n1, .slice A2 d2.length n2] 34)) #[.int .i64 0, .slice none 0 0, .slice none 0 0] 34).below q1
    simpa using this
  go_upto_region 2 with (fail)
  have Lc2 : Loc (w1.alloc (.cells #[.int .i64 ht, .slice B1 d1.length k1, .slice B2 d2.length k2] 34)) (w.heap.size) [.int .i64 ht, .slice A1 d1.length n1, .slice A2 d2.length n2] := Lc.alloc _
  have Lr2 : Loc (w1.alloc (.cells #[.int .i64 ht, .slice B1 d1.length k1, .slice B2 d2.length k2] 34)) (w.heap.size + 1) [.int .i64 0, .slice none 0 0, .slice none 0 0] := Lr.alloc _
  have Lo : Loc (w1.alloc (.cells #[.int .i64 ht, .slice B1 d1.length k1, .slice B2 d2.length k2] 34)) (w1.heap.size) [.int .i64 ht, .slice B1 d1.length k1, .slice B2 d2.length k2] := Loc.new w1 #[.int .i64 ht, .slice B1 d1.length k1, .slice B2 d2.length k2] 34
  have hb2 : Below w.heap.size w (w1.alloc (.cells #[.int .i64 ht, .slice B1 d1.length k1, .slice B2 d2.length k2] 34)) := by (repeat' (first | (with_reducible exact Below.refl _ _) | (with_reducible assumption) | (with_reducible refine Below.setCell ?_ (by first | omega | (simp; omega) | (simp; done)) _) | (with_reducible refine Below.alloc ?_ (by first | omega | (simp; omega) | (simp; done)) _) | (with_reducible refine Below.drew ?_) | (with_reducible refine below_drewN ?_ _)))
  have ow2 := ow.below (w' := (w1.alloc (.cells #[.int .i64 ht, .slice B1 d1.length k1, .slice B2 d2.length k2] 34))) (by (repeat' (first | (with_reducible exact Below.refl _ _) | (with_reducible assumption) | (with_reducible refine Below.setCell ?_ (by first | omega | (simp; omega) | (simp; done)) _) | (with_reducible refine Below.alloc ?_ (by first | omega | (simp; omega) | (simp; done)) _) | (with_reducible refine Below.drew ?_) | (with_reducible refine below_drewN ?_ _))))
  have f2 := fresh_mono (w' := (w1.alloc (.cells #[.int .i64 ht, .slice B1 d1.length k1, .slice B2 d2.length k2] 34))) f1 (Nat.le_refl _) (by simp)
  have hz2 : (w1.alloc (.cells #[.int .i64 ht, .slice B1 d1.length k1, .slice B2 d2.length k2] 34)).heap.size = w1.heap.size + 1 := by simp
  have hS : ∀ b ∈ S, b < w1.heap.size := fun b hb => (f1.2 b hb).2
  clear hb ow f1 Lc Lr q1
  generalize w1.alloc (.cells #[.int .i64 ht, .slice B1 d1.length k1, .slice B2 d2.length k2] 34) = W at *
  have c0 := (Lc2 0 _ rfl).1
  have o0 := (Lo 0 _ rfl).1
  have of0 := (Lo 0 _ rfl).2
  have o1 := (Lo 1 _ rfl).1
  have of1 := (Lo 1 _ rfl).2
  have o2 := (Lo 2 _ rfl).1
  have of2 := (Lo 2 _ rfl).2
  have r0 := (Lr2 0 _ rfl).1
  have rf0 := (Lr2 0 _ rfl).2
  have r1 := (Lr2 1 _ rfl).1
  have rf1 := (Lr2 1 _ rfl).2
  have r2 := (Lr2 2 _ rfl).1
  have rf2 := (Lr2 2 _ rfl).2
  have Ow := Lib.hid ow2
  have F := Lib.hid f2
  have HS := Lib.hid hS
  clear ow2 f2 hS Lc2 Lr2 Lo h
  go_wp2_with (go_at_call 73; refine twoI (within_any _ _ _ _) (fun hc hm hm' => ?_) (fun hc => ?_))
  · refine bodyPost_ret (v := .tuple #[.agg #[.int .i64 (ht + b), .slice B1 d1.length k1, .slice B2 d2.length k2], .bool true]) (by simp [results, Try.results25, go_sem, *]) rfl (retControl_t (lift_t (by exact Hid.out (by assumption)) (by exact Hid.out (by assumption)) hc.out) ⟨_, _, S, rfl, ?_, ?_, ?_⟩)
    · exact Ow.out.chg (T := [w1.heap.size, w.heap.size + 1]) (by repeat' (first | (with_reducible exact Chg.refl _ _) | (with_reducible refine chg_set ?_ (by simp)))) (fun b hb => by have := F.out.2 b hb; have := HS.out b hb; simp; omega)
    · exact fresh_mono F.out (by omega) (by simp)
    · exact Below.chg hb2 (S := [w1.heap.size, w.heap.size + 1]) (by repeat' (first | (with_reducible exact Chg.refl _ _) | (with_reducible refine chg_set ?_ (by simp)))) hb2.size (by simp; omega)
  all_goals
    refine bodyPost_ret (v := .tuple #[.agg #[.int .i64 ht, .slice B1 d1.length k1, .slice B2 d2.length k2], .bool false]) (by simp [results, Try.results25, go_sem, *]) rfl (retControl_f (by first | exact lift_f1 hc.out | exact lift_f2 hc.out | exact lift_f3 hc.out) ⟨_, _, S, rfl, ?_, ?_, ?_⟩)
    · exact Ow.out.chg (T := [w1.heap.size, w.heap.size + 1]) (by repeat' (first | (with_reducible exact Chg.refl _ _) | (with_reducible refine chg_set ?_ (by simp)))) (fun b hb => by have := F.out.2 b hb; have := HS.out b hb; simp; omega)
    · exact fresh_mono F.out (by omega) (by simp)
    · exact Below.chg hb2 (S := [w1.heap.size, w.heap.size + 1]) (by repeat' (first | (with_reducible exact Chg.refl _ _) | (with_reducible refine chg_set ?_ (by simp)))) hb2.size (by simp; omega)
end Go.Proofs.Ytkejgogheonakaa
