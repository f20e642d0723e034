/- The struct Body: to read it, to own it, its marks; contracts of the laws' helpers. Written by a program (gen_struct.py). -/
import Derived.Test.YthponccjbbkhaaaRLimb
import Derived.Test.YthponccjbbkhaaaS0
namespace Go.Proofs.Ythponccjbbkhaaa
open Go.RowKit

def RdBody (w : World) (x1 : Value) (d1 : List RLimb) : Prop := RdL cLimb 3 w x1 d1
def OwBody (w : World) (S : List Nat) (x1 : Value) (d1 : List RLimb) : Prop := ∃ S1, S = S1 ∧ OwL 103 cLimb 3 w (S1) x1 d1
def szBody (d1 : List RLimb) : Nat := d1.length
def cntBody (d1 : List RLimb) : Nat := d1.length * 3
def MkBody (w : World) (S : List Nat) (x1 : Value) (d1 : List RLimb) (m : Int) : Prop := ∃ S1, S = S1 ∧ MkL 103 mkLimb 3 w (S1) x1 d1.length m
section
variable {w w' : World} {S T : List Nat} {x1 : Value} {d1 : List RLimb} {m : Int}
theorem RdBody.below (h : RdBody w x1 d1) (hb : Below w.heap.size w w') : RdBody w' x1 d1 := by
  have h1 : RdL cLimb 3 w x1 d1 := h
  exact h1.below hb
theorem RdBody.forms (h : RdBody w x1 d1) : (∃ A c, x1 = .slice A d1.length c) := by
  have h1 : RdL cLimb 3 w x1 d1 := h
  have f1 : (∃ A c, x1 = .slice A d1.length c) := by obtain ⟨A, c, e, _⟩ := h1.form; exact ⟨A, c, e⟩
  exact f1
theorem OwBody.rd (h : OwBody w S x1 d1) : RdBody w x1 d1 := by
  obtain ⟨S1, _, h1⟩ := h
  exact h1.rd
theorem OwBody.below (h : OwBody w S x1 d1) (hb : Below w.heap.size w w') : OwBody w' S x1 d1 := by
  obtain ⟨S1, e, h1⟩ := h
  exact ⟨S1, e, h1.below hb⟩
theorem OwBody.chg (h : OwBody w S x1 d1) (hc : Chg T w w') (hn : ∀ b ∈ S, b ∉ T) : OwBody w' S x1 d1 := by
  obtain ⟨S1, e, h1⟩ := h
  exact ⟨S1, e, h1.chg hc (fun b hb => hn b (by rw [e]; first | exact hb | simp only [List.mem_append, hb, true_or, or_true]))⟩
theorem MkBody.below (h : MkBody w S x1 d1 m) (hb : Below w.heap.size w w') : MkBody w' S x1 d1 m := by
  obtain ⟨S1, e, h1⟩ := h
  exact ⟨S1, e, h1.below hb⟩
theorem MkBody.chg (h : MkBody w S x1 d1 m) (hc : Chg T w w') (hn : ∀ b ∈ S, b ∉ T) : MkBody w' S x1 d1 m := by
  obtain ⟨S1, e, h1⟩ := h
  exact ⟨S1, e, h1.chg hc (fun b hb => hn b (by rw [e]; first | exact hb | simp only [List.mem_append, hb, true_or, or_true]))⟩
end
set_option maxHeartbeats 4000000 in
set_option maxRecDepth 100000 in
theorem szBody_any (a0 : Int) (x1 : Value) (d1 : List RLimb) (m : Int) (w : World) (hr : RdBody w x1 d1) (hm : 0 ≤ m ∧ m ≤ 1048576) :
    Calls Try.prog 58 #[.agg #[.int .i64 a0, x1], .int .i64 m] w (SzB m (szBody d1) w) := by
  have h1 : RdL cLimb 3 w x1 d1 := hr
  go_enter Try.func58, Try.ntmps58
  go_wp2_with fail
  refine (szB_of (szLimbS_any x1 d1 m _ (h1.below ((Below.refl _ _).alloc (Nat.le_refl _) _)) (by omega))).mono ?_
  rintro e w0 ⟨r0, rfl, q0, hr0, ht0⟩
  have Ht0 := Lib.hid ht0
  clear ht0
  have hb : Below w.heap.size w w0 := bl_alloc q0
  have c0 := carry (b := w.heap.size) (o := 0) (v := .int .i64 a0) q0 (by simp [go_sem])
  have c1 := carry (b := w.heap.size) (o := 1) (v := x1) q0 (by simp [go_sem])
  by_cases hn0 : r0 < 0
  · go_wp2_with fail
    go_ret
    exact ⟨-1, rfl, hb, by omega, by omega⟩
  go_wp2_with fail
  go_ret
  exact ⟨_, rfl, hb, by omega, fun _ => by unfold szBody; have e0 := Ht0.out (by omega); omega⟩
def ToBody (a0 : Int) (d1 : List RLimb) (w : World) (e : Ending) (w' : World) : Prop :=
  ∃ x1 S, e = .returned (.agg #[.int .i64 a0, x1]) ∧ OwBody w' S x1 d1 ∧ Fresh w.heap.size w' S ∧ Below w.heap.size w w'
set_option maxHeartbeats 4000000 in
set_option maxRecDepth 100000 in
theorem toBody_any (a0 : Int) (y1 : Value) (d1 : List RLimb) (w : World) (hr : RdBody w y1 d1) (hl : szBody d1 ≤ 1048576) :
    Calls Try.prog 60 #[.agg #[.int .i64 a0, y1]] w (ToBody a0 d1 w) := by
  have h1 : RdL cLimb 3 w y1 d1 := hr
  unfold szBody at hl
  go_enter Try.func60, Try.ntmps60
  go_wp2_with fail
  refine (toLimbS_any y1 d1 _ (h1.below (by (repeat' (first | (with_reducible exact Below.refl _ _) | (with_reducible assumption) | (with_reducible refine Below.setCell ?_ (by first | omega | (simp; omega) | (simp; done)) _) | (with_reducible refine Below.alloc ?_ (by first | omega | (simp; omega) | (simp; done)) _) | (with_reducible refine Below.drew ?_) | (with_reducible refine below_drewN ?_ _))))) (by omega)).mono ?_
  rintro e w0 ⟨x1, rfl, own0, q0⟩
  have o0 : OwL 103 cLimb 3 w0 (x1.ownBlock.toList) x1 d1 := OwL.mk_ own0
  have f0 := fresh_of own0
  clear own0
  obtain ⟨A1, n1, rfl, _, _⟩ := o0.rd.form
  have z0 := q0.size
  simp at z0
  have c0 := carry (b := w.heap.size) (o := 0) (v := .int .i64 a0) q0 (by simp [go_sem, *])
  have g0 := carryF (b := w.heap.size + 1 + 1) (o := 0) (v := .int .i64 a0) q0 (by simp [go_sem, *]) (by simp [go_sem, *])
  have k0 := carry (b := w.heap.size + 1 + 1) (o := 0) (v := .int .i64 a0) q0 (by simp [go_sem, *])
  have p0 := carryF (b := w.heap.size + 1) (o := 0) (v := .int .i64 0) q0 (by simp [go_sem, *]) (by simp [go_sem, *])
  have j0 := carry (b := w.heap.size + 1) (o := 0) (v := .int .i64 0) q0 (by simp [go_sem, *])
  have c1 := carry (b := w.heap.size) (o := 1) (v := y1) q0 (by simp [go_sem, *])
  have g1 := carryF (b := w.heap.size + 1 + 1) (o := 1) (v := .slice none 0 0) q0 (by simp [go_sem, *]) (by simp [go_sem, *])
  have k1 := carry (b := w.heap.size + 1 + 1) (o := 1) (v := .slice none 0 0) q0 (by simp [go_sem, *])
  have p1 := carryF (b := w.heap.size + 1) (o := 1) (v := .slice none 0 0) q0 (by simp [go_sem, *]) (by simp [go_sem, *])
  have j1 := carry (b := w.heap.size + 1) (o := 1) (v := .slice none 0 0) q0 (by simp [go_sem, *])
  have hb : Below w.heap.size w w0 := Below.trans (by (repeat' (first | (with_reducible exact Below.refl _ _) | (with_reducible assumption) | (with_reducible refine Below.setCell ?_ (by first | omega | (simp; omega) | (simp; done)) _) | (with_reducible refine Below.alloc ?_ (by first | omega | (simp; omega) | (simp; done)) _) | (with_reducible refine Below.drew ?_) | (with_reducible refine below_drewN ?_ _)))) (q0.mono (by simp <;> omega))
  go_wp2_with fail
  have b0 := f0.2
  refine bodyPost_ret (v := .agg #[.int .i64 a0, (Value.slice A1 d1.length n1)]) (by simp [results, Try.results60, go_sem, *]) rfl ⟨(Value.slice A1 d1.length n1), (Value.slice A1 d1.length n1).ownBlock.toList, rfl, ?_, ?_, by (repeat' (first | (with_reducible exact Below.refl _ _) | (with_reducible assumption) | (with_reducible refine Below.setCell ?_ (by first | omega | (simp; omega) | (simp; done)) _) | (with_reducible refine Below.alloc ?_ (by first | omega | (simp; omega) | (simp; done)) _) | (with_reducible refine Below.drew ?_) | (with_reducible refine below_drewN ?_ _)))⟩
  · have hs : ∀ {S : List Nat}, (∀ b ∈ S, w.heap.size + 3 ≤ b) → ∀ b ∈ S, b ∉ [w.heap.size + 1, w.heap.size + 1 + 1] := fun h b hb hc => by have := h b hb; simp at hc; omega
    exact ⟨(Value.slice A1 d1.length n1).ownBlock.toList, rfl, o0.chg (T := [w.heap.size + 1, w.heap.size + 1 + 1]) (by repeat' (first | (with_reducible exact Chg.refl _ _) | (with_reducible refine chg_set ?_ (by simp)))) (hs (fun b hb => by have := b0 b hb; simp at this; omega))⟩
  · exact fresh_mono f0 (by first | omega | (simp; omega) | simp) (by first | omega | (simp; omega) | simp)
set_option maxHeartbeats 4000000 in
set_option maxRecDepth 100000 in
theorem eqBody_any (a0 : Int) (x1 : Value) (y1 : Value) (d1 : List RLimb) (w : World) (hx : RdBody w x1 d1) (hy : RdBody w y1 d1) :
    Calls Try.prog 61 #[.agg #[.int .i64 a0, x1], .agg #[.int .i64 a0, y1]] w fun e w' => e = .returned (.bool true) ∧ Below w.heap.size w w' := by
  have h1 : RdL cLimb 3 w x1 d1 := hx
  have g1 : RdL cLimb 3 w y1 d1 := hy
  go_enter Try.func61, Try.ntmps61
  go_wp2_with fail
  refine (eqLimbS_any x1 y1 d1 _ (h1.below (((Below.refl _ _).alloc (Nat.le_refl _) _).alloc (by simp) _)) (g1.below (((Below.refl _ _).alloc (Nat.le_refl _) _).alloc (by simp) _))).mono ?_
  rintro e w0 ⟨rfl, q0⟩
  have cx0 := carry (b := w.heap.size) (o := 0) (v := .int .i64 a0) q0 (by simp [go_sem])
  have cy0 := carry (b := w.heap.size + 1) (o := 0) (v := .int .i64 a0) q0 (by simp [go_sem])
  have cx1 := carry (b := w.heap.size) (o := 1) (v := x1) q0 (by simp [go_sem])
  have cy1 := carry (b := w.heap.size + 1) (o := 1) (v := y1) q0 (by simp [go_sem])
  have hb : Below w.heap.size w w0 := bl_alloc (bl_alloc q0)
  go_wp2_with fail
  go_ret
  exact ⟨rfl, hb⟩
set_option maxHeartbeats 4000000 in
set_option maxRecDepth 100000 in
theorem markBody_any (a0 : Int) (x1 : Value) (d1 : List RLimb) (m : Int) (w : World) (B : Nat) (S : List Nat) (h : OwBody w S x1 d1) (hf : Fresh B w S) (hm : 0 ≤ m ∧ m ≤ 16777216) (hl : szBody d1 ≤ 1048576) :
    Calls Try.prog 62 #[.agg #[.int .i64 a0, x1], .int .i64 m] w fun e w' => e = .returned (.int .i64 (m + cntBody d1)) ∧ MkBody w' S x1 d1 m ∧ Chg S w w' := by
  unfold szBody at hl
  obtain ⟨S1, rfl, h1⟩ := h
  have e1 := h1.2
  subst e1
  have in1 : ∀ b ∈ x1.ownBlock.toList, b < w.heap.size := fun b hb => (hf.2 b hb).2
  have n1 := hf.1
  clear hf
  go_enter Try.func62, Try.ntmps62
  go_wp2_with fail
  have hb0 : Below w.heap.size w (w.alloc (.cells #[.int .i64 a0, x1] 60)) := (Below.refl _ _).alloc (Nat.le_refl _) _
  replace h1 := h1.below hb0
  have hch : Chg (x1.ownBlock.toList) w (w.alloc (.cells #[.int .i64 a0, x1] 60)) := Chg.of_below hb0 _
  have e1 : d1.length * 3 ≤ 3145728 := by (try unfold cntCompany); (try unfold szCompany at hl); (try rw [plsCnt_tot]); omega
  refine (markLimbS_any x1 d1.length _ m 0 _ h1.1 (by omega) (by omega)).mono ?_
  rintro e w0 ⟨rfl, own0, gr0⟩
  have mk0 : MkL 103 mkLimb 3 w0 (x1.ownBlock.toList) x1 d1.length m := ⟨own_mono own0 (Nat.zero_le _), rfl⟩
  have q0 := Chg.of_grown gr0
  clear own0 gr0
  have c0 := carryChg (b := w.heap.size) (o := 0) (v := .int .i64 a0) q0 (by simp [go_sem]) (fun hm => Nat.lt_irrefl _ (in1 _ hm))
  have c1 := carryChg (b := w.heap.size) (o := 1) (v := x1) q0 (by simp [go_sem]) (fun hm => Nat.lt_irrefl _ (in1 _ hm))
  replace hch := hch.trans (q0.mono (T := x1.ownBlock.toList) (fun b hb => hb))
  go_wp2_with fail
  go_ret
  exact ⟨ret_int (by unfold cntBody; omega), ⟨x1.ownBlock.toList, rfl, mk0⟩, hch⟩
set_option maxHeartbeats 4000000 in
set_option maxRecDepth 100000 in
theorem heldBody_any (a0 : Int) (x1 : Value) (d1 : List RLimb) (m : Int) (w : World) (S : List Nat) (h : MkBody w S x1 d1 m) (hm : 0 ≤ m ∧ m ≤ 16777216) (hl : szBody d1 ≤ 1048576) :
    Calls Try.prog 63 #[.agg #[.int .i64 a0, x1], .int .i64 m] w fun e w' => e = .returned (.int .i64 (m + cntBody d1)) ∧ Below w.heap.size w w' := by
  unfold szBody at hl
  obtain ⟨S1, rfl, h1⟩ := h
  go_enter Try.func63, Try.ntmps63
  go_wp2_with fail
  have e1 : d1.length * 3 ≤ 3145728 := by (try unfold cntCompany); (try unfold szCompany at hl); (try rw [plsCnt_tot]); omega
  refine (heldLimbS_any x1 d1.length m _ (MkL.rd (h1.below ((Below.refl _ _).alloc (Nat.le_refl _) _))) (by omega) (by omega)).mono ?_
  rintro e w0 ⟨rfl, q0⟩
  replace q0 := eq_below q0
  have c0 := carry (b := w.heap.size) (o := 0) (v := .int .i64 a0) q0 (by simp [go_sem])
  have c1 := carry (b := w.heap.size) (o := 1) (v := x1) q0 (by simp [go_sem])
  have hb : Below w.heap.size w w0 := bl_alloc q0
  go_wp2_with fail
  go_ret
  exact ⟨ret_int (by unfold cntBody; omega), hb⟩
end Go.Proofs.Ythponccjbbkhaaa
