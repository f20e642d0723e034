/- The struct Player: to read it, to own it, its marks; contracts of the laws' helpers. Written by a program (gen_struct.py). -/
import Derived.Test.YtjbhlbcjljdjmaaI1
import Derived.Test.YtjbhlbcjljdjmaaS0
namespace Go.Proofs.Ytjbhlbcjljdjmaa
open Go.RowKit

def RdPlayer (w : World) (x0 : Value) (d0 : List Int) : Prop := RdL cInt 1 w x0 d0
def OwPlayer (w : World) (S : List Nat) (x0 : Value) (d0 : List Int) : Prop := ∃ S0, S = S0 ∧ OwL 3 cInt 1 w (S0) x0 d0
def szPlayer (d0 : List Int) : Nat := d0.length
def cntPlayer (d0 : List Int) : Nat := d0.length
def MkPlayer (w : World) (S : List Nat) (x0 : Value) (d0 : List Int) (m : Int) : Prop := ∃ S0, S = S0 ∧ MkL 3 mkInt 1 w (S0) x0 d0.length m
section
variable {w w' : World} {S T : List Nat} {x0 : Value} {d0 : List Int} {m : Int}
theorem RdPlayer.below (h : RdPlayer w x0 d0) (hb : Below w.heap.size w w') : RdPlayer w' x0 d0 := by
  have h0 : RdL cInt 1 w x0 d0 := h
  exact h0.below hb
theorem RdPlayer.forms (h : RdPlayer w x0 d0) : (∃ A c, x0 = .slice A d0.length c) := by
  have h0 : RdL cInt 1 w x0 d0 := h
  have f0 : (∃ A c, x0 = .slice A d0.length c) := by obtain ⟨A, c, e, _⟩ := h0.form; exact ⟨A, c, e⟩
  exact f0
theorem OwPlayer.rd (h : OwPlayer w S x0 d0) : RdPlayer w x0 d0 := by
  obtain ⟨S0, _, h0⟩ := h
  exact h0.rd
theorem OwPlayer.below (h : OwPlayer w S x0 d0) (hb : Below w.heap.size w w') : OwPlayer w' S x0 d0 := by
  obtain ⟨S0, e, h0⟩ := h
  exact ⟨S0, e, h0.below hb⟩
theorem OwPlayer.chg (h : OwPlayer w S x0 d0) (hc : Chg T w w') (hn : ∀ b ∈ S, b ∉ T) : OwPlayer w' S x0 d0 := by
  obtain ⟨S0, e, h0⟩ := h
  exact ⟨S0, e, h0.chg hc (fun b hb => hn b (by rw [e]; first | exact hb | simp only [List.mem_append, hb, true_or, or_true]))⟩
theorem MkPlayer.below (h : MkPlayer w S x0 d0 m) (hb : Below w.heap.size w w') : MkPlayer w' S x0 d0 m := by
  obtain ⟨S0, e, h0⟩ := h
  exact ⟨S0, e, h0.below hb⟩
theorem MkPlayer.chg (h : MkPlayer w S x0 d0 m) (hc : Chg T w w') (hn : ∀ b ∈ S, b ∉ T) : MkPlayer w' S x0 d0 m := by
  obtain ⟨S0, e, h0⟩ := h
  exact ⟨S0, e, h0.chg hc (fun b hb => hn b (by rw [e]; first | exact hb | simp only [List.mem_append, hb, true_or, or_true]))⟩
end
set_option maxHeartbeats 4000000 in
set_option maxRecDepth 100000 in
theorem szPlayer_any (a1 : Int) (x0 : Value) (d0 : List Int) (m : Int) (w : World) (hr : RdPlayer w x0 d0) (hm : 0 ≤ m ∧ m ≤ 1048576) :
    Calls Try.prog 110 #[.agg #[x0, .int .i64 a1], .int .i64 m] w (SzB m (szPlayer d0) w) := by
  have h0 : RdL cInt 1 w x0 d0 := hr
  go_enter Try.func110, Try.ntmps110
  go_wp2_with fail
  refine (szB_of (szIntS_any x0 d0 m _ (h0.below ((Below.refl _ _).alloc (Nat.le_refl _) _)) (by omega))).mono ?_
  rintro e w0 ⟨r0, rfl, q0, hr0, ht0⟩
  have Ht0 := Lib.hid ht0
  clear ht0
  have hb : Below w.heap.size w w0 := bl_alloc q0
  have c0 := carry (b := w.heap.size) (o := 0) (v := x0) q0 (by simp [go_sem])
  have c1 := carry (b := w.heap.size) (o := 1) (v := .int .i64 a1) q0 (by simp [go_sem])
  by_cases hn0 : r0 < 0
  · go_wp2_with fail
    go_ret
    exact ⟨-1, rfl, hb, by omega, by omega⟩
  go_wp2_with fail
  go_ret
  exact ⟨_, rfl, hb, by omega, fun _ => by unfold szPlayer; have e0 := Ht0.out (by omega); omega⟩
def ToPlayer (a1 : Int) (d0 : List Int) (w : World) (e : Ending) (w' : World) : Prop :=
  ∃ x0 S, e = .returned (.agg #[x0, .int .i64 a1]) ∧ OwPlayer w' S x0 d0 ∧ Fresh w.heap.size w' S ∧ Below w.heap.size w w'
set_option maxHeartbeats 4000000 in
set_option maxRecDepth 100000 in
theorem toPlayer_any (a1 : Int) (y0 : Value) (d0 : List Int) (w : World) (hr : RdPlayer w y0 d0) (hl : szPlayer d0 ≤ 1048576) :
    Calls Try.prog 112 #[.agg #[y0, .int .i64 a1]] w (ToPlayer a1 d0 w) := by
  have h0 : RdL cInt 1 w y0 d0 := hr
  unfold szPlayer at hl
  go_enter Try.func112, Try.ntmps112
  go_wp2_with fail
  refine (toIntS_any y0 d0 _ (h0.below (by (repeat' (first | (with_reducible exact Below.refl _ _) | (with_reducible assumption) | (with_reducible refine Below.setCell ?_ (by first | omega | (simp; omega) | (simp; done)) _) | (with_reducible refine Below.alloc ?_ (by first | omega | (simp; omega) | (simp; done)) _) | (with_reducible refine Below.drew ?_) | (with_reducible refine below_drewN ?_ _))))) (by omega)).mono ?_
  rintro e w0 ⟨x0, rfl, own0, q0⟩
  have o0 : OwL 3 cInt 1 w0 (x0.ownBlock.toList) x0 d0 := OwL.mk_ own0
  have f0 := fresh_of own0
  clear own0
  obtain ⟨A0, n0, rfl, _, _⟩ := o0.rd.form
  have z0 := q0.size
  simp at z0
  have c0 := carry (b := w.heap.size) (o := 0) (v := y0) q0 (by simp [go_sem, *])
  have g0 := carryF (b := w.heap.size + 1 + 1) (o := 0) (v := .slice none 0 0) q0 (by simp [go_sem, *]) (by simp [go_sem, *])
  have k0 := carry (b := w.heap.size + 1 + 1) (o := 0) (v := .slice none 0 0) q0 (by simp [go_sem, *])
  have p0 := carryF (b := w.heap.size + 1) (o := 0) (v := .slice none 0 0) q0 (by simp [go_sem, *]) (by simp [go_sem, *])
  have j0 := carry (b := w.heap.size + 1) (o := 0) (v := .slice none 0 0) q0 (by simp [go_sem, *])
  have c1 := carry (b := w.heap.size) (o := 1) (v := .int .i64 a1) q0 (by simp [go_sem, *])
  have g1 := carryF (b := w.heap.size + 1 + 1) (o := 1) (v := .int .i64 0) q0 (by simp [go_sem, *]) (by simp [go_sem, *])
  have k1 := carry (b := w.heap.size + 1 + 1) (o := 1) (v := .int .i64 0) q0 (by simp [go_sem, *])
  have p1 := carryF (b := w.heap.size + 1) (o := 1) (v := .int .i64 0) q0 (by simp [go_sem, *]) (by simp [go_sem, *])
  have j1 := carry (b := w.heap.size + 1) (o := 1) (v := .int .i64 0) q0 (by simp [go_sem, *])
  have hb : Below w.heap.size w w0 := Below.trans (by (repeat' (first | (with_reducible exact Below.refl _ _) | (with_reducible assumption) | (with_reducible refine Below.setCell ?_ (by first | omega | (simp; omega) | (simp; done)) _) | (with_reducible refine Below.alloc ?_ (by first | omega | (simp; omega) | (simp; done)) _) | (with_reducible refine Below.drew ?_) | (with_reducible refine below_drewN ?_ _)))) (q0.mono (by simp <;> omega))
  go_wp2_with fail
  have b0 := f0.2
  refine bodyPost_ret (v := .agg #[(Value.slice A0 d0.length n0), .int .i64 a1]) (by simp [results, Try.results112, go_sem, *]) rfl ⟨(Value.slice A0 d0.length n0), (Value.slice A0 d0.length n0).ownBlock.toList, rfl, ?_, ?_, by (repeat' (first | (with_reducible exact Below.refl _ _) | (with_reducible assumption) | (with_reducible refine Below.setCell ?_ (by first | omega | (simp; omega) | (simp; done)) _) | (with_reducible refine Below.alloc ?_ (by first | omega | (simp; omega) | (simp; done)) _) | (with_reducible refine Below.drew ?_) | (with_reducible refine below_drewN ?_ _)))⟩
  · have hs : ∀ {S : List Nat}, (∀ b ∈ S, w.heap.size + 3 ≤ b) → ∀ b ∈ S, b ∉ [w.heap.size + 1, w.heap.size + 1 + 1] := fun h b hb hc => by have := h b hb; simp at hc; omega
    exact ⟨(Value.slice A0 d0.length n0).ownBlock.toList, rfl, o0.chg (T := [w.heap.size + 1, w.heap.size + 1 + 1]) (by repeat' (first | (with_reducible exact Chg.refl _ _) | (with_reducible refine chg_set ?_ (by simp)))) (hs (fun b hb => by have := b0 b hb; simp at this; omega))⟩
  · exact fresh_mono f0 (by first | omega | (simp; omega) | simp) (by first | omega | (simp; omega) | simp)
set_option maxHeartbeats 4000000 in
set_option maxRecDepth 100000 in
theorem eqPlayer_any (a1 : Int) (x0 : Value) (y0 : Value) (d0 : List Int) (w : World) (hx : RdPlayer w x0 d0) (hy : RdPlayer w y0 d0) :
    Calls Try.prog 118 #[.agg #[x0, .int .i64 a1], .agg #[y0, .int .i64 a1]] w fun e w' => e = .returned (.bool true) ∧ Below w.heap.size w w' := by
  have h0 : RdL cInt 1 w x0 d0 := hx
  have g0 : RdL cInt 1 w y0 d0 := hy
  go_enter Try.func118, Try.ntmps118
  go_wp2_with fail
  refine (eqIntS_any x0 y0 d0 _ (h0.below (((Below.refl _ _).alloc (Nat.le_refl _) _).alloc (by simp) _)) (g0.below (((Below.refl _ _).alloc (Nat.le_refl _) _).alloc (by simp) _))).mono ?_
  rintro e w0 ⟨rfl, q0⟩
  have cx0 := carry (b := w.heap.size) (o := 0) (v := x0) q0 (by simp [go_sem])
  have cy0 := carry (b := w.heap.size + 1) (o := 0) (v := y0) q0 (by simp [go_sem])
  have cx1 := carry (b := w.heap.size) (o := 1) (v := .int .i64 a1) q0 (by simp [go_sem])
  have cy1 := carry (b := w.heap.size + 1) (o := 1) (v := .int .i64 a1) q0 (by simp [go_sem])
  have hb : Below w.heap.size w w0 := bl_alloc (bl_alloc q0)
  go_wp2_with fail
  go_ret
  exact ⟨rfl, hb⟩
end Go.Proofs.Ytjbhlbcjljdjmaa
