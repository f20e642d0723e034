/- The struct Company: to read it, to own it, its marks; contracts of the laws' helpers. Written by a program (gen_struct.py). -/
import Derived.Test.YtjbhlbcjljdjmaaRCross
import Derived.Test.YtjbhlbcjljdjmaaP2
import Derived.Test.YtjbhlbcjljdjmaaS0
namespace Go.Proofs.Ytjbhlbcjljdjmaa
open Go.RowKit

def RdCompany (w : World) (x1 x2 : Value) (d1 : List RCross) (d2 : List RPl) : Prop := RdL cCross 2 w x1 d1 ∧ RdPls w x2 d2
def OwCompany (w : World) (S : List Nat) (x1 x2 : Value) (d1 : List RCross) (d2 : List RPl) : Prop := ∃ S1 S2, S = S1 ++ S2 ∧ OwL 115 cCross 2 w (S1) x1 d1 ∧ OwPls w (S2) x2 d2
def szCompany (d1 : List RCross) (d2 : List RPl) : Nat := d1.length + plsTot d2
def cntCompany (d1 : List RCross) (d2 : List RPl) : Nat := d1.length * 2 + plsCnt d2
def MkCompany (w : World) (S : List Nat) (x1 x2 : Value) (d1 : List RCross) (d2 : List RPl) (m : Int) : Prop := ∃ S1 S2, S = S1 ++ S2 ∧ MkL 115 mkCross 2 w (S1) x1 d1.length m ∧ MkPls w (S2) x2 d2 (m + d1.length * 2)
section
variable {w w' : World} {S T : List Nat} {x1 x2 : Value} {d1 : List RCross} {d2 : List RPl} {m : Int}
theorem RdCompany.below (h : RdCompany w x1 x2 d1 d2) (hb : Below w.heap.size w w') : RdCompany w' x1 x2 d1 d2 := by
  obtain ⟨h1, h2⟩ := h
  exact ⟨h1.below hb, h2.below hb⟩
theorem RdCompany.forms (h : RdCompany w x1 x2 d1 d2) : (∃ A c, x1 = .slice A d1.length c) ∧ (∃ A c, x2 = .slice A d2.length c) := by
  obtain ⟨h1, h2⟩ := h
  have f1 : (∃ A c, x1 = .slice A d1.length c) := by obtain ⟨A, c, e, _⟩ := h1.form; exact ⟨A, c, e⟩
  have f2 : (∃ A c, x2 = .slice A d2.length c) := by obtain ⟨A, c, e, _⟩ := h2.form; exact ⟨A, c, e⟩
  exact ⟨f1, f2⟩
theorem OwCompany.rd (h : OwCompany w S x1 x2 d1 d2) : RdCompany w x1 x2 d1 d2 := by
  obtain ⟨S1, S2, _, h1, h2⟩ := h
  exact ⟨h1.rd, h2.rd⟩
theorem OwCompany.below (h : OwCompany w S x1 x2 d1 d2) (hb : Below w.heap.size w w') : OwCompany w' S x1 x2 d1 d2 := by
  obtain ⟨S1, S2, e, h1, h2⟩ := h
  exact ⟨S1, S2, e, h1.below hb, h2.below hb⟩
theorem OwCompany.chg (h : OwCompany w S x1 x2 d1 d2) (hc : Chg T w w') (hn : ∀ b ∈ S, b ∉ T) : OwCompany w' S x1 x2 d1 d2 := by
  obtain ⟨S1, S2, e, h1, h2⟩ := h
  exact ⟨S1, S2, e, h1.chg hc (fun b hb => hn b (by rw [e]; first | exact hb | simp only [List.mem_append, hb, true_or, or_true])), h2.chg hc (fun b hb => hn b (by rw [e]; first | exact hb | simp only [List.mem_append, hb, true_or, or_true]))⟩
theorem MkCompany.below (h : MkCompany w S x1 x2 d1 d2 m) (hb : Below w.heap.size w w') : MkCompany w' S x1 x2 d1 d2 m := by
  obtain ⟨S1, S2, e, h1, h2⟩ := h
  exact ⟨S1, S2, e, h1.below hb, h2.below hb⟩
theorem MkCompany.chg (h : MkCompany w S x1 x2 d1 d2 m) (hc : Chg T w w') (hn : ∀ b ∈ S, b ∉ T) : MkCompany w' S x1 x2 d1 d2 m := by
  obtain ⟨S1, S2, e, h1, h2⟩ := h
  exact ⟨S1, S2, e, h1.chg hc (fun b hb => hn b (by rw [e]; first | exact hb | simp only [List.mem_append, hb, true_or, or_true])), h2.chg hc (fun b hb => hn b (by rw [e]; first | exact hb | simp only [List.mem_append, hb, true_or, or_true]))⟩
end
set_option maxHeartbeats 4000000 in
set_option maxRecDepth 100000 in
theorem szCompany_any (a0 : Int) (x1 x2 : Value) (d1 : List RCross) (d2 : List RPl) (m : Int) (w : World) (hr : RdCompany w x1 x2 d1 d2) (hm : 0 ≤ m ∧ m ≤ 1048576) :
    Calls Try.prog 19 #[.agg #[.int .i64 a0, x1, x2], .int .i64 m] w (SzB m (szCompany d1 d2) w) := by
  obtain ⟨h1, h2⟩ := hr
  go_enter Try.func19, Try.ntmps19
  go_wp2_with fail
  refine (szB_of (szCrossS_any x1 d1 m _ (h1.below ((Below.refl _ _).alloc (Nat.le_refl _) _)) (by omega))).mono ?_
  rintro e w0 ⟨r0, rfl, q0, hr0, ht0⟩
  have Ht0 := Lib.hid ht0
  clear ht0
  have hb : Below w.heap.size w w0 := bl_alloc q0
  have c0 := carry (b := w.heap.size) (o := 0) (v := .int .i64 a0) q0 (by simp [go_sem])
  have c1 := carry (b := w.heap.size) (o := 1) (v := x1) q0 (by simp [go_sem])
  have c2 := carry (b := w.heap.size) (o := 2) (v := x2) q0 (by simp [go_sem])
  by_cases hn0 : r0 < 0
  · go_wp2_with fail
    go_ret
    exact ⟨-1, rfl, hb, by omega, by omega⟩
  go_wp2_with fail
  refine ((szPlayerS_any x2 d2 r0 _ (h2.below hb) (by omega))).mono ?_
  rintro e w1 ⟨r1, rfl, q1, hr1, ht1⟩
  have Ht1 := Lib.hid ht1
  clear ht1
  replace hb : Below w.heap.size w w1 := bl_trans hb q1
  replace c0 := carry q1 c0
  replace c1 := carry q1 c1
  replace c2 := carry q1 c2
  by_cases hn1 : r1 < 0
  · go_wp2_with fail
    go_ret
    exact ⟨-1, rfl, hb, by omega, by omega⟩
  go_wp2_with fail
  go_ret
  exact ⟨_, rfl, hb, by omega, fun _ => by unfold szCompany; have e0 := Ht0.out (by omega); have e1 := Ht1.out (by omega); omega⟩
def ToCompany (a0 : Int) (d1 : List RCross) (d2 : List RPl) (w : World) (e : Ending) (w' : World) : Prop :=
  ∃ x1 x2 S, e = .returned (.agg #[.int .i64 a0, x1, x2]) ∧ OwCompany w' S x1 x2 d1 d2 ∧ Fresh w.heap.size w' S ∧ Below w.heap.size w w'
set_option maxHeartbeats 4000000 in
set_option maxRecDepth 100000 in
theorem toCompany_any (a0 : Int) (y1 y2 : Value) (d1 : List RCross) (d2 : List RPl) (w : World) (hr : RdCompany w y1 y2 d1 d2) (hl : szCompany d1 d2 ≤ 1048576) :
    Calls Try.prog 21 #[.agg #[.int .i64 a0, y1, y2]] w (ToCompany a0 d1 d2 w) := by
  obtain ⟨h1, h2⟩ := hr
  unfold szCompany at hl
  go_enter Try.func21, Try.ntmps21
  go_wp2_with fail
  refine (toCrossS_any y1 d1 _ (h1.below (by (repeat' (first | (with_reducible exact Below.refl _ _) | (with_reducible assumption) | (with_reducible refine Below.setCell ?_ (by first | omega | (simp; omega) | (simp; done)) _) | (with_reducible refine Below.alloc ?_ (by first | omega | (simp; omega) | (simp; done)) _) | (with_reducible refine Below.drew ?_) | (with_reducible refine below_drewN ?_ _))))) (by omega)).mono ?_
  rintro e w0 ⟨x1, rfl, own0, q0⟩
  have o0 : OwL 115 cCross 2 w0 (x1.ownBlock.toList) x1 d1 := OwL.mk_ own0
  have f0 := fresh_of own0
  clear own0
  obtain ⟨A1, n1, rfl, _, _⟩ := o0.rd.form
  have z0 := q0.size
  simp at z0
  have c0 := carry (b := w.heap.size) (o := 0) (v := .int .i64 a0) q0 (by simp [go_sem, *])
  have g0 := carryF (b := w.heap.size + 1 + 1) (o := 0) (v := .int .i64 a0) q0 (by simp [go_sem, *]) (by simp [go_sem, *])
  have k0 := carry (b := w.heap.size + 1 + 1) (o := 0) (v := .int .i64 a0) q0 (by simp [go_sem, *])
  have p0 := carryF (b := w.heap.size + 1) (o := 0) (v := .int .i64 0) q0 (by simp [go_sem, *]) (by simp [go_sem, *])
  have j0 := carry (b := w.heap.size + 1) (o := 0) (v := .int .i64 0) q0 (by simp [go_sem, *])
  have c1 := carry (b := w.heap.size) (o := 1) (v := y1) q0 (by simp [go_sem, *])
  have g1 := carryF (b := w.heap.size + 1 + 1) (o := 1) (v := .slice none 0 0) q0 (by simp [go_sem, *]) (by simp [go_sem, *])
  have k1 := carry (b := w.heap.size + 1 + 1) (o := 1) (v := .slice none 0 0) q0 (by simp [go_sem, *])
  have p1 := carryF (b := w.heap.size + 1) (o := 1) (v := .slice none 0 0) q0 (by simp [go_sem, *]) (by simp [go_sem, *])
  have j1 := carry (b := w.heap.size + 1) (o := 1) (v := .slice none 0 0) q0 (by simp [go_sem, *])
  have c2 := carry (b := w.heap.size) (o := 2) (v := y2) q0 (by simp [go_sem, *])
  have g2 := carryF (b := w.heap.size + 1 + 1) (o := 2) (v := .slice none 0 0) q0 (by simp [go_sem, *]) (by simp [go_sem, *])
  have k2 := carry (b := w.heap.size + 1 + 1) (o := 2) (v := .slice none 0 0) q0 (by simp [go_sem, *])
  have p2 := carryF (b := w.heap.size + 1) (o := 2) (v := .slice none 0 0) q0 (by simp [go_sem, *]) (by simp [go_sem, *])
  have j2 := carry (b := w.heap.size + 1) (o := 2) (v := .slice none 0 0) q0 (by simp [go_sem, *])
  have hb : Below w.heap.size w w0 := Below.trans (by (repeat' (first | (with_reducible exact Below.refl _ _) | (with_reducible assumption) | (with_reducible refine Below.setCell ?_ (by first | omega | (simp; omega) | (simp; done)) _) | (with_reducible refine Below.alloc ?_ (by first | omega | (simp; omega) | (simp; done)) _) | (with_reducible refine Below.drew ?_) | (with_reducible refine below_drewN ?_ _)))) (q0.mono (by simp <;> omega))
  go_wp2_with fail
  refine (toPlayerS_any y2 d2 _ (h2.below (by (repeat' (first | (with_reducible exact Below.refl _ _) | (with_reducible assumption) | (with_reducible refine Below.setCell ?_ (by first | omega | (simp; omega) | (simp; done)) _) | (with_reducible refine Below.alloc ?_ (by first | omega | (simp; omega) | (simp; done)) _) | (with_reducible refine Below.drew ?_) | (with_reducible refine below_drewN ?_ _))))) (by omega)).mono ?_
  rintro e w1 ⟨x2, S2, rfl, o1, f1, q1⟩
  obtain ⟨A2, n2, rfl, _, _⟩ := o1.rd.form
  have z1 := q1.size
  simp at z1
  replace c0 := carry (b := w.heap.size) (o := 0) (v := .int .i64 a0) q1 (by simp [go_sem, *])
  replace g0 := carryF (b := w.heap.size + 1 + 1) (o := 0) (v := .int .i64 a0) q1 (by simp [go_sem, *]) (by simp [go_sem, *])
  replace k0 := carry (b := w.heap.size + 1 + 1) (o := 0) (v := .int .i64 a0) q1 (by simp [go_sem, *])
  replace p0 := carryF (b := w.heap.size + 1) (o := 0) (v := .int .i64 0) q1 (by simp [go_sem, *]) (by simp [go_sem, *])
  replace j0 := carry (b := w.heap.size + 1) (o := 0) (v := .int .i64 0) q1 (by simp [go_sem, *])
  replace c1 := carry (b := w.heap.size) (o := 1) (v := y1) q1 (by simp [go_sem, *])
  replace g1 := carryF (b := w.heap.size + 1 + 1) (o := 1) (v := (Value.slice A1 d1.length n1)) q1 (by simp [go_sem, *]) (by simp [go_sem, *])
  replace k1 := carry (b := w.heap.size + 1 + 1) (o := 1) (v := (Value.slice A1 d1.length n1)) q1 (by simp [go_sem, *])
  replace p1 := carryF (b := w.heap.size + 1) (o := 1) (v := .slice none 0 0) q1 (by simp [go_sem, *]) (by simp [go_sem, *])
  replace j1 := carry (b := w.heap.size + 1) (o := 1) (v := .slice none 0 0) q1 (by simp [go_sem, *])
  replace c2 := carry (b := w.heap.size) (o := 2) (v := y2) q1 (by simp [go_sem, *])
  replace g2 := carryF (b := w.heap.size + 1 + 1) (o := 2) (v := .slice none 0 0) q1 (by simp [go_sem, *]) (by simp [go_sem, *])
  replace k2 := carry (b := w.heap.size + 1 + 1) (o := 2) (v := .slice none 0 0) q1 (by simp [go_sem, *])
  replace p2 := carryF (b := w.heap.size + 1) (o := 2) (v := .slice none 0 0) q1 (by simp [go_sem, *]) (by simp [go_sem, *])
  replace j2 := carry (b := w.heap.size + 1) (o := 2) (v := .slice none 0 0) q1 (by simp [go_sem, *])
  replace hb : Below w.heap.size w w1 := Below.trans (by (repeat' (first | (with_reducible exact Below.refl _ _) | (with_reducible assumption) | (with_reducible refine Below.setCell ?_ (by first | omega | (simp; omega) | (simp; done)) _) | (with_reducible refine Below.alloc ?_ (by first | omega | (simp; omega) | (simp; done)) _) | (with_reducible refine Below.drew ?_) | (with_reducible refine below_drewN ?_ _)))) (q1.mono (by simp <;> omega))
  replace o0 := (o0.chg (w' := _) (T := [w.heap.size + 1 + 1]) (by repeat' (first | (with_reducible exact Chg.refl _ _) | (with_reducible refine chg_set ?_ (by simp)))) (fun b hb hc => by have := f0.2 b hb; simp at hc this; omega)).below q1
  go_wp2_with fail
  have b0 := f0.2
  have b1 := f1.2
  refine bodyPost_ret (v := .agg #[.int .i64 a0, (Value.slice A1 d1.length n1), (Value.slice A2 d2.length n2)]) (by simp [results, Try.results21, go_sem, *]) rfl ⟨(Value.slice A1 d1.length n1), (Value.slice A2 d2.length n2), (Value.slice A1 d1.length n1).ownBlock.toList ++ S2, rfl, ?_, ?_, by (repeat' (first | (with_reducible exact Below.refl _ _) | (with_reducible assumption) | (with_reducible refine Below.setCell ?_ (by first | omega | (simp; omega) | (simp; done)) _) | (with_reducible refine Below.alloc ?_ (by first | omega | (simp; omega) | (simp; done)) _) | (with_reducible refine Below.drew ?_) | (with_reducible refine below_drewN ?_ _)))⟩
  · have hs : ∀ {S : List Nat}, (∀ b ∈ S, w.heap.size + 3 ≤ b) → ∀ b ∈ S, b ∉ [w.heap.size + 1, w.heap.size + 1 + 1] := fun h b hb hc => by have := h b hb; simp at hc; omega
    exact ⟨(Value.slice A1 d1.length n1).ownBlock.toList, S2, rfl, o0.chg (T := [w.heap.size + 1, w.heap.size + 1 + 1]) (by repeat' (first | (with_reducible exact Chg.refl _ _) | (with_reducible refine chg_set ?_ (by simp)))) (hs (fun b hb => by have := b0 b hb; simp at this; omega)), o1.chg (T := [w.heap.size + 1, w.heap.size + 1 + 1]) (by repeat' (first | (with_reducible exact Chg.refl _ _) | (with_reducible refine chg_set ?_ (by simp)))) (hs (fun b hb => by have := b1 b hb; simp at this; omega))⟩
  · exact fresh_mono (fresh_append f0 f1 (by first | omega | (simp; omega) | simp) (by first | omega | (simp; omega) | simp) (Nat.le_refl _) (by first | omega | (simp; omega) | simp)) (by first | omega | (simp; omega) | simp) (by first | omega | (simp; omega) | simp)
set_option maxHeartbeats 4000000 in
set_option maxRecDepth 100000 in
theorem eqCompany_any (a0 : Int) (x1 x2 : Value) (y1 y2 : Value) (d1 : List RCross) (d2 : List RPl) (w : World) (hx : RdCompany w x1 x2 d1 d2) (hy : RdCompany w y1 y2 d1 d2) :
    Calls Try.prog 23 #[.agg #[.int .i64 a0, x1, x2], .agg #[.int .i64 a0, y1, y2]] w fun e w' => e = .returned (.bool true) ∧ Below w.heap.size w w' := by
  obtain ⟨h1, h2⟩ := hx
  obtain ⟨g1, g2⟩ := hy
  go_enter Try.func23, Try.ntmps23
  go_wp2_with fail
  refine (eqCrossS_any x1 y1 d1 _ (h1.below (((Below.refl _ _).alloc (Nat.le_refl _) _).alloc (by simp) _)) (g1.below (((Below.refl _ _).alloc (Nat.le_refl _) _).alloc (by simp) _))).mono ?_
  rintro e w0 ⟨rfl, q0⟩
  have cx0 := carry (b := w.heap.size) (o := 0) (v := .int .i64 a0) q0 (by simp [go_sem])
  have cy0 := carry (b := w.heap.size + 1) (o := 0) (v := .int .i64 a0) q0 (by simp [go_sem])
  have cx1 := carry (b := w.heap.size) (o := 1) (v := x1) q0 (by simp [go_sem])
  have cy1 := carry (b := w.heap.size + 1) (o := 1) (v := y1) q0 (by simp [go_sem])
  have cx2 := carry (b := w.heap.size) (o := 2) (v := x2) q0 (by simp [go_sem])
  have cy2 := carry (b := w.heap.size + 1) (o := 2) (v := y2) q0 (by simp [go_sem])
  have hb : Below w.heap.size w w0 := bl_alloc (bl_alloc q0)
  go_wp2_with fail
  refine (eqPlayerS_any x2 y2 d2 _ (h2.below hb) (g2.below hb)).mono ?_
  rintro e w1 ⟨rfl, q1⟩
  replace cx0 := carry q1 cx0
  replace cy0 := carry q1 cy0
  replace cx1 := carry q1 cx1
  replace cy1 := carry q1 cy1
  replace cx2 := carry q1 cx2
  replace cy2 := carry q1 cy2
  replace hb : Below w.heap.size w w1 := bl_trans hb q1
  go_wp2_with fail
  go_ret
  exact ⟨rfl, hb⟩
set_option maxHeartbeats 4000000 in
set_option maxRecDepth 100000 in
theorem markCompany_any (a0 : Int) (x1 x2 : Value) (d1 : List RCross) (d2 : List RPl) (m : Int) (w : World) (B : Nat) (S : List Nat) (h : OwCompany w S x1 x2 d1 d2) (hf : Fresh B w S) (hm : 0 ≤ m ∧ m ≤ 16777216) (hl : szCompany d1 d2 ≤ 1048576) :
    Calls Try.prog 26 #[.agg #[.int .i64 a0, x1, x2], .int .i64 m] w fun e w' => e = .returned (.int .i64 (m + cntCompany d1 d2)) ∧ MkCompany w' S x1 x2 d1 d2 m ∧ Chg S w w' := by
  unfold szCompany at hl
  obtain ⟨S1, S2, rfl, h1, h2⟩ := h
  have e1 := h1.2
  subst e1
  have in1 : ∀ b ∈ x1.ownBlock.toList, b < w.heap.size := fun b hb => (hf.2 b (by simp only [List.mem_append, hb, true_or, or_true])).2
  have in2 : ∀ b ∈ S2, b < w.heap.size := fun b hb => (hf.2 b (by simp only [List.mem_append, hb, true_or, or_true])).2
  obtain ⟨n1, n2, dj, dj'⟩ := nodup2 hf.1
  clear hf
  go_enter Try.func26, Try.ntmps26
  go_wp2_with fail
  have hb0 : Below w.heap.size w (w.alloc (.cells #[.int .i64 a0, x1, x2] 47)) := (Below.refl _ _).alloc (Nat.le_refl _) _
  replace h1 := h1.below hb0
  replace h2 := h2.below hb0
  have hch : Chg (x1.ownBlock.toList ++ S2) w (w.alloc (.cells #[.int .i64 a0, x1, x2] 47)) := Chg.of_below hb0 _
  have e1 : d1.length * 2 ≤ 3145728 := by (try unfold cntCompany); (try unfold szCompany at hl); (try rw [plsCnt_tot]); omega
  have e2 : plsCnt d2 ≤ 3145728 := by (try unfold cntCompany); (try unfold szCompany at hl); (try rw [plsCnt_tot]); omega
  refine (markCrossS_any x1 d1.length _ m 0 _ h1.1 (by omega) (by omega)).mono ?_
  rintro e w0 ⟨rfl, own0, gr0⟩
  have mk0 : MkL 115 mkCross 2 w0 (x1.ownBlock.toList) x1 d1.length m := ⟨own_mono own0 (Nat.zero_le _), rfl⟩
  have q0 := Chg.of_grown gr0
  clear own0 gr0
  have c0 := carryChg (b := w.heap.size) (o := 0) (v := .int .i64 a0) q0 (by simp [go_sem]) (fun hm => Nat.lt_irrefl _ (in1 _ hm))
  have c1 := carryChg (b := w.heap.size) (o := 1) (v := x1) q0 (by simp [go_sem]) (fun hm => Nat.lt_irrefl _ (in1 _ hm))
  have c2 := carryChg (b := w.heap.size) (o := 2) (v := x2) q0 (by simp [go_sem]) (fun hm => Nat.lt_irrefl _ (in1 _ hm))
  replace h2 := h2.chg q0 dj'
  replace hch := hch.trans (q0.mono (T := x1.ownBlock.toList ++ S2) (fun b hb => (by simp only [List.mem_append, hb, true_or, or_true])))
  go_wp2_with fail
  refine (markPlayerS_any x2 d2 (m + d1.length * 2) _ _ h2 n2 (by omega) (by omega)).mono ?_
  rintro e w1 ⟨rfl, mk1, q1⟩
  replace c0 := carryChg q1 c0 (fun hm => Nat.lt_irrefl _ (in2 _ hm))
  replace c1 := carryChg q1 c1 (fun hm => Nat.lt_irrefl _ (in2 _ hm))
  replace c2 := carryChg q1 c2 (fun hm => Nat.lt_irrefl _ (in2 _ hm))
  replace mk0 := mk0.chg q1 dj
  replace hch := hch.trans (q1.mono (T := x1.ownBlock.toList ++ S2) (fun b hb => (by simp only [List.mem_append, hb, true_or, or_true])))
  go_wp2_with fail
  go_ret
  exact ⟨ret_int (by unfold cntCompany; omega), ⟨x1.ownBlock.toList, S2, rfl, mk0, mk1⟩, hch⟩
set_option maxHeartbeats 4000000 in
set_option maxRecDepth 100000 in
theorem heldCompany_any (a0 : Int) (x1 x2 : Value) (d1 : List RCross) (d2 : List RPl) (m : Int) (w : World) (S : List Nat) (h : MkCompany w S x1 x2 d1 d2 m) (hm : 0 ≤ m ∧ m ≤ 16777216) (hl : szCompany d1 d2 ≤ 1048576) :
    Calls Try.prog 27 #[.agg #[.int .i64 a0, x1, x2], .int .i64 m] w fun e w' => e = .returned (.int .i64 (m + cntCompany d1 d2)) ∧ Below w.heap.size w w' := by
  unfold szCompany at hl
  obtain ⟨S1, S2, rfl, h1, h2⟩ := h
  go_enter Try.func27, Try.ntmps27
  go_wp2_with fail
  have e1 : d1.length * 2 ≤ 3145728 := by (try unfold cntCompany); (try unfold szCompany at hl); (try rw [plsCnt_tot]); omega
  have e2 : plsCnt d2 ≤ 3145728 := by (try unfold cntCompany); (try unfold szCompany at hl); (try rw [plsCnt_tot]); omega
  refine (heldCrossS_any x1 d1.length m _ (MkL.rd (h1.below ((Below.refl _ _).alloc (Nat.le_refl _) _))) (by omega) (by omega)).mono ?_
  rintro e w0 ⟨rfl, q0⟩
  replace q0 := eq_below q0
  have c0 := carry (b := w.heap.size) (o := 0) (v := .int .i64 a0) q0 (by simp [go_sem])
  have c1 := carry (b := w.heap.size) (o := 1) (v := x1) q0 (by simp [go_sem])
  have c2 := carry (b := w.heap.size) (o := 2) (v := x2) q0 (by simp [go_sem])
  have hb : Below w.heap.size w w0 := bl_alloc q0
  go_wp2_with fail
  refine (heldPlayerS_any x2 d2 (m + d1.length * 2) _ _ (h2.below hb) (by omega) (by omega)).mono ?_
  rintro e w1 ⟨rfl, q1⟩
  replace q1 := eq_below q1
  replace c0 := carry q1 c0
  replace c1 := carry q1 c1
  replace c2 := carry q1 c2
  replace hb : Below w.heap.size w w1 := bl_trans hb q1
  go_wp2_with fail
  go_ret
  exact ⟨ret_int (by unfold cntCompany; omega), hb⟩
end Go.Proofs.Ytjbhlbcjljdjmaa
