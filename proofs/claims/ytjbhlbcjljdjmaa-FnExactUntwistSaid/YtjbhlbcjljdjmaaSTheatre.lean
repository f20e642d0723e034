/- The struct Theatre: to read it, to own it, its marks; contracts of the laws' helpers. Written by a program (gen_struct.py). -/
import Derived.Test.YtjbhlbcjljdjmaaSCompany
import Derived.Test.YtjbhlbcjljdjmaaI1
import Derived.Test.YtjbhlbcjljdjmaaS0
namespace Go.Proofs.Ytjbhlbcjljdjmaa
open Go.RowKit

def RdTheatre (w : World) (x1 x2 x3 : Value) (d1 : List RCross) (d2 : List RPl) (d3 : List Int) : Prop := RdCompany w x1 x2 d1 d2 ∧ RdL cInt 1 w x3 d3
def OwTheatre (w : World) (S : List Nat) (x1 x2 x3 : Value) (d1 : List RCross) (d2 : List RPl) (d3 : List Int) : Prop := ∃ S1 S3, S = S1 ++ S3 ∧ OwCompany w (S1) x1 x2 d1 d2 ∧ OwL 3 cInt 1 w (S3) x3 d3
def szTheatre (d1 : List RCross) (d2 : List RPl) (d3 : List Int) : Nat := szCompany d1 d2 + d3.length
def cntTheatre (d1 : List RCross) (d2 : List RPl) (d3 : List Int) : Nat := cntCompany d1 d2 + d3.length
def MkTheatre (w : World) (S : List Nat) (x1 x2 x3 : Value) (d1 : List RCross) (d2 : List RPl) (d3 : List Int) (m : Int) : Prop := ∃ S1 S3, S = S1 ++ S3 ∧ MkCompany w (S1) x1 x2 d1 d2 m ∧ MkL 3 mkInt 1 w (S3) x3 d3.length (m + cntCompany d1 d2)
section
variable {w w' : World} {S T : List Nat} {x1 x2 x3 : Value} {d1 : List RCross} {d2 : List RPl} {d3 : List Int} {m : Int}
theorem RdTheatre.below (h : RdTheatre w x1 x2 x3 d1 d2 d3) (hb : Below w.heap.size w w') : RdTheatre w' x1 x2 x3 d1 d2 d3 := by
  obtain ⟨h1, h3⟩ := h
  exact ⟨h1.below hb, h3.below hb⟩
theorem RdTheatre.forms (h : RdTheatre w x1 x2 x3 d1 d2 d3) : (∃ A c, x1 = .slice A d1.length c) ∧ (∃ A c, x2 = .slice A d2.length c) ∧ (∃ A c, x3 = .slice A d3.length c) := by
  obtain ⟨h1, h3⟩ := h
  have f1 := h1.forms
  obtain ⟨p1, p2⟩ := f1
  have f3 : (∃ A c, x3 = .slice A d3.length c) := by obtain ⟨A, c, e, _⟩ := h3.form; exact ⟨A, c, e⟩
  exact ⟨p1, p2, f3⟩
theorem OwTheatre.rd (h : OwTheatre w S x1 x2 x3 d1 d2 d3) : RdTheatre w x1 x2 x3 d1 d2 d3 := by
  obtain ⟨S1, S3, _, h1, h3⟩ := h
  exact ⟨h1.rd, h3.rd⟩
theorem OwTheatre.below (h : OwTheatre w S x1 x2 x3 d1 d2 d3) (hb : Below w.heap.size w w') : OwTheatre w' S x1 x2 x3 d1 d2 d3 := by
  obtain ⟨S1, S3, e, h1, h3⟩ := h
  exact ⟨S1, S3, e, h1.below hb, h3.below hb⟩
theorem OwTheatre.chg (h : OwTheatre w S x1 x2 x3 d1 d2 d3) (hc : Chg T w w') (hn : ∀ b ∈ S, b ∉ T) : OwTheatre w' S x1 x2 x3 d1 d2 d3 := by
  obtain ⟨S1, S3, e, h1, h3⟩ := h
  exact ⟨S1, S3, e, h1.chg hc (fun b hb => hn b (by rw [e]; first | exact hb | simp only [List.mem_append, hb, true_or, or_true])), h3.chg hc (fun b hb => hn b (by rw [e]; first | exact hb | simp only [List.mem_append, hb, true_or, or_true]))⟩
theorem MkTheatre.below (h : MkTheatre w S x1 x2 x3 d1 d2 d3 m) (hb : Below w.heap.size w w') : MkTheatre w' S x1 x2 x3 d1 d2 d3 m := by
  obtain ⟨S1, S3, e, h1, h3⟩ := h
  exact ⟨S1, S3, e, h1.below hb, h3.below hb⟩
theorem MkTheatre.chg (h : MkTheatre w S x1 x2 x3 d1 d2 d3 m) (hc : Chg T w w') (hn : ∀ b ∈ S, b ∉ T) : MkTheatre w' S x1 x2 x3 d1 d2 d3 m := by
  obtain ⟨S1, S3, e, h1, h3⟩ := h
  exact ⟨S1, S3, e, h1.chg hc (fun b hb => hn b (by rw [e]; first | exact hb | simp only [List.mem_append, hb, true_or, or_true])), h3.chg hc (fun b hb => hn b (by rw [e]; first | exact hb | simp only [List.mem_append, hb, true_or, or_true]))⟩
end
set_option maxHeartbeats 4000000 in
set_option maxRecDepth 100000 in
theorem szTheatre_any (a0 : Int) (a4 : Int) (x1 x2 x3 : Value) (d1 : List RCross) (d2 : List RPl) (d3 : List Int) (m : Int) (w : World) (hr : RdTheatre w x1 x2 x3 d1 d2 d3) (hm : 0 ≤ m ∧ m ≤ 1048576) :
    Calls Try.prog 28 #[.agg #[.int .i64 a0, x1, x2, x3, .int .i64 a4], .int .i64 m] w (SzB m (szTheatre d1 d2 d3) w) := by
  obtain ⟨h1, h3⟩ := hr
  go_enter Try.func28, Try.ntmps28
  go_wp2_with fail
  refine (szCompany_any a0 x1 x2 d1 d2 m _ (h1.below ((Below.refl _ _).alloc (Nat.le_refl _) _)) (by omega)).mono ?_
  rintro e w0 ⟨r0, rfl, q0, hr0, ht0⟩
  have Ht0 := Lib.hid ht0
  clear ht0
  have hb : Below w.heap.size w w0 := bl_alloc q0
  have c0 := carry (b := w.heap.size) (o := 0) (v := .int .i64 a0) q0 (by simp [go_sem])
  have c1 := carry (b := w.heap.size) (o := 1) (v := x1) q0 (by simp [go_sem])
  have c2 := carry (b := w.heap.size) (o := 2) (v := x2) q0 (by simp [go_sem])
  have c3 := carry (b := w.heap.size) (o := 3) (v := x3) q0 (by simp [go_sem])
  have c4 := carry (b := w.heap.size) (o := 4) (v := .int .i64 a4) q0 (by simp [go_sem])
  by_cases hn0 : r0 < 0
  · go_wp2_with fail
    go_ret
    exact ⟨-1, rfl, hb, by omega, by omega⟩
  go_wp2_with fail
  refine (szB_of (szIntS_any x3 d3 r0 _ (h3.below hb) (by omega))).mono ?_
  rintro e w1 ⟨r1, rfl, q1, hr1, ht1⟩
  have Ht1 := Lib.hid ht1
  clear ht1
  replace hb : Below w.heap.size w w1 := bl_trans hb q1
  replace c0 := carry q1 c0
  replace c1 := carry q1 c1
  replace c2 := carry q1 c2
  replace c3 := carry q1 c3
  replace c4 := carry q1 c4
  by_cases hn1 : r1 < 0
  · go_wp2_with fail
    go_ret
    exact ⟨-1, rfl, hb, by omega, by omega⟩
  go_wp2_with fail
  go_ret
  exact ⟨_, rfl, hb, by omega, fun _ => by unfold szTheatre; have e0 := Ht0.out (by omega); have e1 := Ht1.out (by omega); omega⟩
def ToTheatre (a0 : Int) (a4 : Int) (d1 : List RCross) (d2 : List RPl) (d3 : List Int) (w : World) (e : Ending) (w' : World) : Prop :=
  ∃ x1 x2 x3 S, e = .returned (.agg #[.int .i64 a0, x1, x2, x3, .int .i64 a4]) ∧ OwTheatre w' S x1 x2 x3 d1 d2 d3 ∧ Fresh w.heap.size w' S ∧ Below w.heap.size w w'
set_option maxHeartbeats 4000000 in
set_option maxRecDepth 100000 in
theorem toTheatre_any (a0 : Int) (a4 : Int) (y1 y2 y3 : Value) (d1 : List RCross) (d2 : List RPl) (d3 : List Int) (w : World) (hr : RdTheatre w y1 y2 y3 d1 d2 d3) (hl : szTheatre d1 d2 d3 ≤ 1048576) :
    Calls Try.prog 30 #[.agg #[.int .i64 a0, y1, y2, y3, .int .i64 a4]] w (ToTheatre a0 a4 d1 d2 d3 w) := by
  obtain ⟨h1, h3⟩ := hr
  unfold szTheatre at hl
  go_enter Try.func30, Try.ntmps30
  go_wp2_with fail
  refine (toCompany_any a0 y1 y2 d1 d2 _ (h1.below (by (repeat' (first | (with_reducible exact Below.refl _ _) | (with_reducible assumption) | (with_reducible refine Below.setCell ?_ (by first | omega | (simp; omega) | (simp; done)) _) | (with_reducible refine Below.alloc ?_ (by first | omega | (simp; omega) | (simp; done)) _) | (with_reducible refine Below.drew ?_) | (with_reducible refine below_drewN ?_ _))))) (by omega)).mono ?_
  rintro e w0 ⟨x1, x2, S1, rfl, o0, f0, q0⟩
  obtain ⟨⟨A1, n1, rfl⟩, ⟨A2, n2, rfl⟩⟩ := o0.rd.forms
  have z0 := q0.size
  simp at z0
  have c0 := carry (b := w.heap.size) (o := 0) (v := .int .i64 a0) q0 (by simp [go_sem, *])
  have g0 := carryF (b := w.heap.size + 1 + 1) (o := 0) (v := .int .i64 0) q0 (by simp [go_sem, *]) (by simp [go_sem, *])
  have k0 := carry (b := w.heap.size + 1 + 1) (o := 0) (v := .int .i64 0) q0 (by simp [go_sem, *])
  have p0 := carryF (b := w.heap.size + 1) (o := 0) (v := .int .i64 0) q0 (by simp [go_sem, *]) (by simp [go_sem, *])
  have j0 := carry (b := w.heap.size + 1) (o := 0) (v := .int .i64 0) q0 (by simp [go_sem, *])
  have c1 := carry (b := w.heap.size) (o := 1) (v := y1) q0 (by simp [go_sem, *])
  have g1 := carryF (b := w.heap.size + 1 + 1) (o := 1) (v := .slice none 0 0) q0 (by simp [go_sem, *]) (by simp [go_sem, *])
  have k1 := carry (b := w.heap.size + 1 + 1) (o := 1) (v := .slice none 0 0) q0 (by simp [go_sem, *])
  have p1 := carryF (b := w.heap.size + 1) (o := 1) (v := .slice none 0 0) q0 (by simp [go_sem, *]) (by simp [go_sem, *])
  have j1 := carry (b := w.heap.size + 1) (o := 1) (v := .slice none 0 0) q0 (by simp [go_sem, *])
  have c2 := carry (b := w.heap.size) (o := 2) (v := y2) q0 (by simp [go_sem, *])
  have g2 := carryF (b := w.heap.size + 1 + 1) (o := 2) (v := .slice none 0 0) q0 (by simp [go_sem, *]) (by simp [go_sem, *])
  have k2 := carry (b := w.heap.size + 1 + 1) (o := 2) (v := .slice none 0 0) q0 (by simp [go_sem, *])
  have p2 := carryF (b := w.heap.size + 1) (o := 2) (v := .slice none 0 0) q0 (by simp [go_sem, *]) (by simp [go_sem, *])
  have j2 := carry (b := w.heap.size + 1) (o := 2) (v := .slice none 0 0) q0 (by simp [go_sem, *])
  have c3 := carry (b := w.heap.size) (o := 3) (v := y3) q0 (by simp [go_sem, *])
  have g3 := carryF (b := w.heap.size + 1 + 1) (o := 3) (v := .slice none 0 0) q0 (by simp [go_sem, *]) (by simp [go_sem, *])
  have k3 := carry (b := w.heap.size + 1 + 1) (o := 3) (v := .slice none 0 0) q0 (by simp [go_sem, *])
  have p3 := carryF (b := w.heap.size + 1) (o := 3) (v := .slice none 0 0) q0 (by simp [go_sem, *]) (by simp [go_sem, *])
  have j3 := carry (b := w.heap.size + 1) (o := 3) (v := .slice none 0 0) q0 (by simp [go_sem, *])
  have c4 := carry (b := w.heap.size) (o := 4) (v := .int .i64 a4) q0 (by simp [go_sem, *])
  have g4 := carryF (b := w.heap.size + 1 + 1) (o := 4) (v := .int .i64 0) q0 (by simp [go_sem, *]) (by simp [go_sem, *])
  have k4 := carry (b := w.heap.size + 1 + 1) (o := 4) (v := .int .i64 0) q0 (by simp [go_sem, *])
  have p4 := carryF (b := w.heap.size + 1) (o := 4) (v := .int .i64 0) q0 (by simp [go_sem, *]) (by simp [go_sem, *])
  have j4 := carry (b := w.heap.size + 1) (o := 4) (v := .int .i64 0) q0 (by simp [go_sem, *])
  have hb : Below w.heap.size w w0 := Below.trans (by (repeat' (first | (with_reducible exact Below.refl _ _) | (with_reducible assumption) | (with_reducible refine Below.setCell ?_ (by first | omega | (simp; omega) | (simp; done)) _) | (with_reducible refine Below.alloc ?_ (by first | omega | (simp; omega) | (simp; done)) _) | (with_reducible refine Below.drew ?_) | (with_reducible refine below_drewN ?_ _)))) (q0.mono (by simp <;> omega))
  go_wp2_with fail
  refine (toIntS_any y3 d3 _ (h3.below (by (repeat' (first | (with_reducible exact Below.refl _ _) | (with_reducible assumption) | (with_reducible refine Below.setCell ?_ (by first | omega | (simp; omega) | (simp; done)) _) | (with_reducible refine Below.alloc ?_ (by first | omega | (simp; omega) | (simp; done)) _) | (with_reducible refine Below.drew ?_) | (with_reducible refine below_drewN ?_ _))))) (by omega)).mono ?_
  rintro e w1 ⟨x3, rfl, own1, q1⟩
  have o1 : OwL 3 cInt 1 w1 (x3.ownBlock.toList) x3 d3 := OwL.mk_ own1
  have f1 := fresh_of own1
  clear own1
  obtain ⟨A3, n3, rfl, _, _⟩ := o1.rd.form
  have z1 := q1.size
  simp at z1
  replace c0 := carry (b := w.heap.size) (o := 0) (v := .int .i64 a0) q1 (by simp [go_sem, *])
  replace g0 := carryF (b := w.heap.size + 1 + 1) (o := 0) (v := .int .i64 a0) q1 (by simp [go_sem, *]) (by simp [go_sem, *])
  replace k0 := carry (b := w.heap.size + 1 + 1) (o := 0) (v := .int .i64 a0) q1 (by simp [go_sem, *])
  replace p0 := carryF (b := w.heap.size + 1) (o := 0) (v := .int .i64 0) q1 (by simp [go_sem, *]) (by simp [go_sem, *])
  replace j0 := carry (b := w.heap.size + 1) (o := 0) (v := .int .i64 0) q1 (by simp [go_sem, *])
  replace c1 := carry (b := w.heap.size) (o := 1) (v := y1) q1 (by simp [go_sem, *])
  replace g1 := carryF (b := w.heap.size + 1 + 1) (o := 1) (v := (Value.slice A1 d1.length n1)) q1 (by simp [go_sem, *]) (by simp [go_sem, *])
  replace k1 := carry (b := w.heap.size + 1 + 1) (o := 1) (v := (Value.slice A1 d1.length n1)) q1 (by simp [go_sem, *])
  replace p1 := carryF (b := w.heap.size + 1) (o := 1) (v := .slice none 0 0) q1 (by simp [go_sem, *]) (by simp [go_sem, *])
  replace j1 := carry (b := w.heap.size + 1) (o := 1) (v := .slice none 0 0) q1 (by simp [go_sem, *])
  replace c2 := carry (b := w.heap.size) (o := 2) (v := y2) q1 (by simp [go_sem, *])
  replace g2 := carryF (b := w.heap.size + 1 + 1) (o := 2) (v := (Value.slice A2 d2.length n2)) q1 (by simp [go_sem, *]) (by simp [go_sem, *])
  replace k2 := carry (b := w.heap.size + 1 + 1) (o := 2) (v := (Value.slice A2 d2.length n2)) q1 (by simp [go_sem, *])
  replace p2 := carryF (b := w.heap.size + 1) (o := 2) (v := .slice none 0 0) q1 (by simp [go_sem, *]) (by simp [go_sem, *])
  replace j2 := carry (b := w.heap.size + 1) (o := 2) (v := .slice none 0 0) q1 (by simp [go_sem, *])
  replace c3 := carry (b := w.heap.size) (o := 3) (v := y3) q1 (by simp [go_sem, *])
  replace g3 := carryF (b := w.heap.size + 1 + 1) (o := 3) (v := .slice none 0 0) q1 (by simp [go_sem, *]) (by simp [go_sem, *])
  replace k3 := carry (b := w.heap.size + 1 + 1) (o := 3) (v := .slice none 0 0) q1 (by simp [go_sem, *])
  replace p3 := carryF (b := w.heap.size + 1) (o := 3) (v := .slice none 0 0) q1 (by simp [go_sem, *]) (by simp [go_sem, *])
  replace j3 := carry (b := w.heap.size + 1) (o := 3) (v := .slice none 0 0) q1 (by simp [go_sem, *])
  replace c4 := carry (b := w.heap.size) (o := 4) (v := .int .i64 a4) q1 (by simp [go_sem, *])
  replace g4 := carryF (b := w.heap.size + 1 + 1) (o := 4) (v := .int .i64 0) q1 (by simp [go_sem, *]) (by simp [go_sem, *])
  replace k4 := carry (b := w.heap.size + 1 + 1) (o := 4) (v := .int .i64 0) q1 (by simp [go_sem, *])
  replace p4 := carryF (b := w.heap.size + 1) (o := 4) (v := .int .i64 0) q1 (by simp [go_sem, *]) (by simp [go_sem, *])
  replace j4 := carry (b := w.heap.size + 1) (o := 4) (v := .int .i64 0) q1 (by simp [go_sem, *])
  replace hb : Below w.heap.size w w1 := Below.trans (by (repeat' (first | (with_reducible exact Below.refl _ _) | (with_reducible assumption) | (with_reducible refine Below.setCell ?_ (by first | omega | (simp; omega) | (simp; done)) _) | (with_reducible refine Below.alloc ?_ (by first | omega | (simp; omega) | (simp; done)) _) | (with_reducible refine Below.drew ?_) | (with_reducible refine below_drewN ?_ _)))) (q1.mono (by simp <;> omega))
  replace o0 := (o0.chg (w' := _) (T := [w.heap.size + 1 + 1]) (by repeat' (first | (with_reducible exact Chg.refl _ _) | (with_reducible refine chg_set ?_ (by simp)))) (fun b hb hc => by have := f0.2 b hb; simp at hc this; omega)).below q1
  go_wp2_with fail
  have b0 := f0.2
  have b1 := f1.2
  refine bodyPost_ret (v := .agg #[.int .i64 a0, (Value.slice A1 d1.length n1), (Value.slice A2 d2.length n2), (Value.slice A3 d3.length n3), .int .i64 a4]) (by simp [results, Try.results30, go_sem, *]) rfl ⟨(Value.slice A1 d1.length n1), (Value.slice A2 d2.length n2), (Value.slice A3 d3.length n3), S1 ++ (Value.slice A3 d3.length n3).ownBlock.toList, rfl, ?_, ?_, by (repeat' (first | (with_reducible exact Below.refl _ _) | (with_reducible assumption) | (with_reducible refine Below.setCell ?_ (by first | omega | (simp; omega) | (simp; done)) _) | (with_reducible refine Below.alloc ?_ (by first | omega | (simp; omega) | (simp; done)) _) | (with_reducible refine Below.drew ?_) | (with_reducible refine below_drewN ?_ _)))⟩
  · have hs : ∀ {S : List Nat}, (∀ b ∈ S, w.heap.size + 3 ≤ b) → ∀ b ∈ S, b ∉ [w.heap.size + 1, w.heap.size + 1 + 1] := fun h b hb hc => by have := h b hb; simp at hc; omega
    exact ⟨S1, (Value.slice A3 d3.length n3).ownBlock.toList, rfl, o0.chg (T := [w.heap.size + 1, w.heap.size + 1 + 1]) (by repeat' (first | (with_reducible exact Chg.refl _ _) | (with_reducible refine chg_set ?_ (by simp)))) (hs (fun b hb => by have := b0 b hb; simp at this; omega)), o1.chg (T := [w.heap.size + 1, w.heap.size + 1 + 1]) (by repeat' (first | (with_reducible exact Chg.refl _ _) | (with_reducible refine chg_set ?_ (by simp)))) (hs (fun b hb => by have := b1 b hb; simp at this; omega))⟩
  · exact fresh_mono (fresh_append f0 f1 (by first | omega | (simp; omega) | simp) (by first | omega | (simp; omega) | simp) (Nat.le_refl _) (by first | omega | (simp; omega) | simp)) (by first | omega | (simp; omega) | simp) (by first | omega | (simp; omega) | simp)
set_option maxHeartbeats 4000000 in
set_option maxRecDepth 100000 in
theorem eqTheatre_any (a0 : Int) (a4 : Int) (x1 x2 x3 : Value) (y1 y2 y3 : Value) (d1 : List RCross) (d2 : List RPl) (d3 : List Int) (w : World) (hx : RdTheatre w x1 x2 x3 d1 d2 d3) (hy : RdTheatre w y1 y2 y3 d1 d2 d3) :
    Calls Try.prog 32 #[.agg #[.int .i64 a0, x1, x2, x3, .int .i64 a4], .agg #[.int .i64 a0, y1, y2, y3, .int .i64 a4]] w fun e w' => e = .returned (.bool true) ∧ Below w.heap.size w w' := by
  obtain ⟨h1, h3⟩ := hx
  obtain ⟨g1, g3⟩ := hy
  go_enter Try.func32, Try.ntmps32
  go_wp2_with fail
  refine (eqCompany_any a0 x1 x2 y1 y2 d1 d2 _ (h1.below (((Below.refl _ _).alloc (Nat.le_refl _) _).alloc (by simp) _)) (g1.below (((Below.refl _ _).alloc (Nat.le_refl _) _).alloc (by simp) _))).mono ?_
  rintro e w0 ⟨rfl, q0⟩
  have cx0 := carry (b := w.heap.size) (o := 0) (v := .int .i64 a0) q0 (by simp [go_sem])
  have cy0 := carry (b := w.heap.size + 1) (o := 0) (v := .int .i64 a0) q0 (by simp [go_sem])
  have cx1 := carry (b := w.heap.size) (o := 1) (v := x1) q0 (by simp [go_sem])
  have cy1 := carry (b := w.heap.size + 1) (o := 1) (v := y1) q0 (by simp [go_sem])
  have cx2 := carry (b := w.heap.size) (o := 2) (v := x2) q0 (by simp [go_sem])
  have cy2 := carry (b := w.heap.size + 1) (o := 2) (v := y2) q0 (by simp [go_sem])
  have cx3 := carry (b := w.heap.size) (o := 3) (v := x3) q0 (by simp [go_sem])
  have cy3 := carry (b := w.heap.size + 1) (o := 3) (v := y3) q0 (by simp [go_sem])
  have cx4 := carry (b := w.heap.size) (o := 4) (v := .int .i64 a4) q0 (by simp [go_sem])
  have cy4 := carry (b := w.heap.size + 1) (o := 4) (v := .int .i64 a4) q0 (by simp [go_sem])
  have hb : Below w.heap.size w w0 := bl_alloc (bl_alloc q0)
  go_wp2_with fail
  refine (eqIntS_any x3 y3 d3 _ (h3.below hb) (g3.below hb)).mono ?_
  rintro e w1 ⟨rfl, q1⟩
  replace cx0 := carry q1 cx0
  replace cy0 := carry q1 cy0
  replace cx1 := carry q1 cx1
  replace cy1 := carry q1 cy1
  replace cx2 := carry q1 cx2
  replace cy2 := carry q1 cy2
  replace cx3 := carry q1 cx3
  replace cy3 := carry q1 cy3
  replace cx4 := carry q1 cx4
  replace cy4 := carry q1 cy4
  replace hb : Below w.heap.size w w1 := bl_trans hb q1
  go_wp2_with fail
  go_ret
  exact ⟨rfl, hb⟩
set_option maxHeartbeats 4000000 in
set_option maxRecDepth 100000 in
theorem markTheatre_any (a0 : Int) (a4 : Int) (x1 x2 x3 : Value) (d1 : List RCross) (d2 : List RPl) (d3 : List Int) (m : Int) (w : World) (B : Nat) (S : List Nat) (h : OwTheatre w S x1 x2 x3 d1 d2 d3) (hf : Fresh B w S) (hm : 0 ≤ m ∧ m ≤ 16777216) (hl : szTheatre d1 d2 d3 ≤ 1048576) :
    Calls Try.prog 33 #[.agg #[.int .i64 a0, x1, x2, x3, .int .i64 a4], .int .i64 m] w fun e w' => e = .returned (.int .i64 (m + cntTheatre d1 d2 d3)) ∧ MkTheatre w' S x1 x2 x3 d1 d2 d3 m ∧ Chg S w w' := by
  unfold szTheatre at hl
  obtain ⟨S1, S3, rfl, h1, h3⟩ := h
  have e3 := h3.2
  subst e3
  have in1 : ∀ b ∈ S1, b < w.heap.size := fun b hb => (hf.2 b (by simp only [List.mem_append, hb, true_or, or_true])).2
  have in3 : ∀ b ∈ x3.ownBlock.toList, b < w.heap.size := fun b hb => (hf.2 b (by simp only [List.mem_append, hb, true_or, or_true])).2
  obtain ⟨n1, n3, dj, dj'⟩ := nodup2 hf.1
  clear hf
  go_enter Try.func33, Try.ntmps33
  go_wp2_with fail
  have hb0 : Below w.heap.size w (w.alloc (.cells #[.int .i64 a0, x1, x2, x3, .int .i64 a4] 58)) := (Below.refl _ _).alloc (Nat.le_refl _) _
  replace h1 := h1.below hb0
  replace h3 := h3.below hb0
  have hch : Chg (S1 ++ x3.ownBlock.toList) w (w.alloc (.cells #[.int .i64 a0, x1, x2, x3, .int .i64 a4] 58)) := Chg.of_below hb0 _
  have e1 : cntCompany d1 d2 ≤ 3145728 := by (try unfold cntCompany); (try unfold szCompany at hl); (try rw [plsCnt_tot]); omega
  have e3 : d3.length ≤ 3145728 := by (try unfold cntCompany); (try unfold szCompany at hl); (try rw [plsCnt_tot]); omega
  refine (markCompany_any a0 x1 x2 d1 d2 m _ 0 _ h1 ⟨n1, fun b hb => ⟨Nat.zero_le _, Nat.lt_of_lt_of_le (in1 b hb) hch.size⟩⟩ (by omega) (by omega)).mono ?_
  rintro e w0 ⟨rfl, mk0, q0⟩
  have c0 := carryChg (b := w.heap.size) (o := 0) (v := .int .i64 a0) q0 (by simp [go_sem]) (fun hm => Nat.lt_irrefl _ (in1 _ hm))
  have c1 := carryChg (b := w.heap.size) (o := 1) (v := x1) q0 (by simp [go_sem]) (fun hm => Nat.lt_irrefl _ (in1 _ hm))
  have c2 := carryChg (b := w.heap.size) (o := 2) (v := x2) q0 (by simp [go_sem]) (fun hm => Nat.lt_irrefl _ (in1 _ hm))
  have c3 := carryChg (b := w.heap.size) (o := 3) (v := x3) q0 (by simp [go_sem]) (fun hm => Nat.lt_irrefl _ (in1 _ hm))
  have c4 := carryChg (b := w.heap.size) (o := 4) (v := .int .i64 a4) q0 (by simp [go_sem]) (fun hm => Nat.lt_irrefl _ (in1 _ hm))
  replace h3 := h3.chg q0 dj'
  replace hch := hch.trans (q0.mono (T := S1 ++ x3.ownBlock.toList) (fun b hb => (by simp only [List.mem_append, hb, true_or, or_true])))
  go_wp2_with fail
  refine (markIntS_any x3 d3.length _ (m + cntCompany d1 d2) 0 _ h3.1 (by omega) (by omega)).mono ?_
  rintro e w1 ⟨rfl, own1, gr1⟩
  have mk1 : MkL 3 mkInt 1 w1 (x3.ownBlock.toList) x3 d3.length (m + cntCompany d1 d2) := ⟨own_mono own1 (Nat.zero_le _), rfl⟩
  have q1 := Chg.of_grown gr1
  clear own1 gr1
  replace c0 := carryChg q1 c0 (fun hm => Nat.lt_irrefl _ (in3 _ hm))
  replace c1 := carryChg q1 c1 (fun hm => Nat.lt_irrefl _ (in3 _ hm))
  replace c2 := carryChg q1 c2 (fun hm => Nat.lt_irrefl _ (in3 _ hm))
  replace c3 := carryChg q1 c3 (fun hm => Nat.lt_irrefl _ (in3 _ hm))
  replace c4 := carryChg q1 c4 (fun hm => Nat.lt_irrefl _ (in3 _ hm))
  replace mk0 := mk0.chg q1 dj
  replace hch := hch.trans (q1.mono (T := S1 ++ x3.ownBlock.toList) (fun b hb => (by simp only [List.mem_append, hb, true_or, or_true])))
  go_wp2_with fail
  go_ret
  exact ⟨ret_int (by unfold cntTheatre; omega), ⟨S1, x3.ownBlock.toList, rfl, mk0, mk1⟩, hch⟩
set_option maxHeartbeats 4000000 in
set_option maxRecDepth 100000 in
theorem heldTheatre_any (a0 : Int) (a4 : Int) (x1 x2 x3 : Value) (d1 : List RCross) (d2 : List RPl) (d3 : List Int) (m : Int) (w : World) (S : List Nat) (h : MkTheatre w S x1 x2 x3 d1 d2 d3 m) (hm : 0 ≤ m ∧ m ≤ 16777216) (hl : szTheatre d1 d2 d3 ≤ 1048576) :
    Calls Try.prog 34 #[.agg #[.int .i64 a0, x1, x2, x3, .int .i64 a4], .int .i64 m] w fun e w' => e = .returned (.int .i64 (m + cntTheatre d1 d2 d3)) ∧ Below w.heap.size w w' := by
  unfold szTheatre at hl
  obtain ⟨S1, S3, rfl, h1, h3⟩ := h
  go_enter Try.func34, Try.ntmps34
  go_wp2_with fail
  have e1 : cntCompany d1 d2 ≤ 3145728 := by (try unfold cntCompany); (try unfold szCompany at hl); (try rw [plsCnt_tot]); omega
  have e3 : d3.length ≤ 3145728 := by (try unfold cntCompany); (try unfold szCompany at hl); (try rw [plsCnt_tot]); omega
  refine (heldCompany_any a0 x1 x2 d1 d2 m _ _ (h1.below ((Below.refl _ _).alloc (Nat.le_refl _) _)) (by omega) (by omega)).mono ?_
  rintro e w0 ⟨rfl, q0⟩
  have c0 := carry (b := w.heap.size) (o := 0) (v := .int .i64 a0) q0 (by simp [go_sem])
  have c1 := carry (b := w.heap.size) (o := 1) (v := x1) q0 (by simp [go_sem])
  have c2 := carry (b := w.heap.size) (o := 2) (v := x2) q0 (by simp [go_sem])
  have c3 := carry (b := w.heap.size) (o := 3) (v := x3) q0 (by simp [go_sem])
  have c4 := carry (b := w.heap.size) (o := 4) (v := .int .i64 a4) q0 (by simp [go_sem])
  have hb : Below w.heap.size w w0 := bl_alloc q0
  go_wp2_with fail
  refine (heldIntS_any x3 d3.length (m + cntCompany d1 d2) _ (MkL.rd (h3.below hb)) (by omega) (by omega)).mono ?_
  rintro e w1 ⟨rfl, q1⟩
  replace q1 := eq_below q1
  replace c0 := carry q1 c0
  replace c1 := carry q1 c1
  replace c2 := carry q1 c2
  replace c3 := carry q1 c3
  replace c4 := carry q1 c4
  replace hb : Below w.heap.size w w1 := bl_trans hb q1
  go_wp2_with fail
  go_ret
  exact ⟨ret_int (by unfold cntTheatre; omega), hb⟩
end Go.Proofs.Ytjbhlbcjljdjmaa
