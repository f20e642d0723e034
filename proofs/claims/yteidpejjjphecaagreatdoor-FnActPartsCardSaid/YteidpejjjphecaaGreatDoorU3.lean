/- The drawing of a control. Written by a program (gen_u3.py). -/
import Derived.Deep.DeepCutAuto
import Derived.Test.YteidpejjjphecaaGreatDoorBdM5x8
import Derived.Test.YteidpejjjphecaaGreatDoorBdW1x3
import Derived.Test.YteidpejjjphecaaGreatDoorBdK1x7
import Derived.Test.YteidpejjjphecaaGreatDoorBdM7x3
namespace Go.Proofs.YteidpejjjphecaaGreatDoor
open Go.RowKit
theorem l01Once_any (n : Int) (w0 w : World) (g : Nat) (A : Option Addr) (c : Nat) (bs : List Int) (hcur : Cur w0 w g A c bs) (hn0 : 0 < n) (hn : n ≤ 256) :
  Calls Tryz.prog 23 #[.pointer (some ⟨g, 0, none⟩), .int .i64 n] w fun e w' => ∃ b : Bool, e = .returned (.bool b) ∧ Cur w0 w' g A c bs ∧ Chg [g] w w' := by
 go_enter Tryz.func23, Tryz.ntmps23
 go_wp2_with fail
 refine (l01Below_any n w0 w g A c bs hcur hn0 hn).mono ?_
 rintro e w' ⟨r, rfl, ⟨hr0, hr1⟩, hc, hch⟩
 go_wp2_with fail
 go_ret
 exact ⟨_, rfl, hc, hch⟩
def JR (C O : World → Prop) (m : Nat) (d : Nat → Bool) (w : World) : Prop := C w ∧ (d m = false → O w)
theorem JR.to {C O : World → Prop} {m i : Nat} {d : Nat → Bool} {w w' : World} (h : JR C O m d w) (hC : C w → C w') (hO : O w → O w') (hi : i ≠ m) : JR C O m (setD d i) w' :=
 ⟨hC h.1, fun e => hO (h.2 (by rwa [setD_ne hi] at e))⟩
theorem JR.same {C O : World → Prop} {m i : Nat} {d : Nat → Bool} {w : World} (h : JR C O m d w) (hi : i ≠ m) : JR C O m (setD d i) w := h.to id id hi
theorem JR.done {C O : World → Prop} {m : Nat} {d : Nat → Bool} {w : World} (h : C w) : JR C O m (setD d m) w := ⟨h, fun e => by rw [setD_self] at e; cases e⟩
structure BoxC (w0 w : World) (g : Nat) (A : Option Addr) (c : Nat) (bs : List Int) (xb rb : Nat) (xs rs : List Value) (W : World) : Prop where
 cur : Cur w0 W g A c bs
 chg : Chg [g] w W
 lx : Loc W xb xs
 lr : Loc W rb rs
 sz : xb < W.heap.size
section
variable {w0 w W W' : World} {g : Nat} {A : Option Addr} {c : Nat} {bs : List Int} {xb rb : Nat} {xs rs : List Value}
theorem BoxC.below (h : BoxC w0 w g A c bs xb rb xs rs W) (hb : Below W.heap.size W W') : BoxC w0 w g A c bs xb rb xs rs W' :=
 ⟨h.cur.keep hb, h.chg.trans (Chg.of_below hb _), h.lx.below hb, h.lr.below hb, Nat.lt_of_lt_of_le h.sz hb.size⟩
theorem BoxC.draw (h : BoxC w0 w g A c bs xb rb xs rs W) (hc : Cur w0 W' g A c bs) (hch : Chg [g] W W') (hx : g ≠ xb) (hr : g ≠ rb) : BoxC w0 w g A c bs xb rb xs rs W' :=
 ⟨hc, h.chg.trans hch, h.lx.chg hch (by simpa using hx.symm), h.lr.chg hch (by simpa using hr.symm), Nat.lt_of_lt_of_le h.sz hch.size⟩
theorem BoxC.grown (h : BoxC w0 w g A c bs xb rb xs rs W) {B : Nat} {e : TypeId} {size n : Nat} {v : Value} {ys : List Value} (hown : W.ownsRow B e size v n ys) (hgr : W.grownBy W' v.ownBlock) (hx : xb < B) (hr : rb < B) (hg : g < B) (hw : w.heap.size ≤ B) (hw0 : w0.heap.size ≤ B) : BoxC w0 w g A c bs xb rb xs rs W' := by
 have hlt : ∀ b ∈ v.ownBlock.toList, B ≤ b := fun b hb => (hown.lt b (by simpa using hb)).1
 exact ⟨cur_own h.cur hown hgr hg hw0, chg_of_own h.chg (own_mono hown hw) hgr, h.lx.chg (Chg.of_grown hgr) (fun hm => by have := hlt _ hm; omega), h.lr.chg (Chg.of_grown hgr) (fun hm => by have := hlt _ hm; omega), Nat.lt_of_lt_of_le h.sz hgr.size⟩
theorem BoxC.store (h : BoxC w0 w g A c bs xb rb xs rs W) {i : Nat} {u v : Value} (hi : xs[i]? = some v) (hx : w.heap.size ≤ xb) (hw0 : w0.heap.size ≤ w.heap.size) (hgx : g ≠ xb) (hr : rb ≠ xb) : BoxC w0 w g A c bs xb rb (xs.set i u) rs (W.setCell ⟨xb, i, none⟩ u) := by
 have hch : Chg [xb] W (W.setCell ⟨xb, i, none⟩ u) := chg_set (Chg.refl _ _) (by simp)
 refine ⟨h.cur.chg hch (by simpa using hgx) (fun b hb => by simp at hb; omega), ⟨hch.os.trans h.chg.os, hch.tape.trans h.chg.tape, hch.output.trans h.chg.output, Nat.le_trans h.chg.size hch.size, fun k hk hn => (hch.block k (Nat.lt_of_lt_of_le hk h.chg.size) (by simp; omega)).trans (h.chg.block k hk hn)⟩, h.lx.set hi, h.lr.far hr, Nat.lt_of_lt_of_le h.sz hch.size⟩
end
theorem own_draw {W W' : World} {B g : Nat} {e : TypeId} {size n : Nat} {v : Value} {ys : List Value} (h : W.ownsRow B e size v n ys) (hch : Chg [g] W W') (hg : g < B) : W'.ownsRow B e size v n ys :=
 own_chg h hch (fun b hb hb' => by have := (h.lt b (by simpa using hb)).1; simp at hb'; omega)
structure CordsTo (m j : Nat) (l : List RCord) : Prop where
 len : l.length ≤ j
 cord : ∀ t ∈ l, (0 ≤ t.1 ∧ t.1 < m) ∧ (0 ≤ t.2.1 ∧ t.2.1 < j) ∧ 0 ≤ t.2.2 ∧ t.2.2 ≤ 59
 once : l.Pairwise (fun a b => a.2.1 ≠ b.2.1)
theorem CordsTo.start (m : Nat) : CordsTo m 0 [] := ⟨Nat.le_refl _, by simp, List.Pairwise.nil⟩
theorem CordsTo.skip {m j : Nat} {l : List RCord} (h : CordsTo m j l) : CordsTo m (j + 1) l := ⟨Nat.le_succ_of_le h.len, fun t ht => by have := h.cord t ht; omega, h.once⟩
theorem CordsTo.snoc {m j : Nat} {l : List RCord} (h : CordsTo m j l) {a x : Int} (ha : 0 ≤ a ∧ a < m) (hx : 0 ≤ x ∧ x ≤ 59) : CordsTo m (j + 1) (l ++ [(a, (j : Int), x)]) := by
 refine ⟨by rw [List.length_append]; have := h.len; simp; omega, fun t ht => ?_, ?_⟩
 ·rcases List.mem_append.1 ht with ht | ht
  ·have := h.cord t ht; omega
  ·simp at ht; subst ht; simp; omega
 ·rw [List.pairwise_append]
  refine ⟨h.once, List.pairwise_singleton _ _, fun s hs t ht => ?_⟩
  simp at ht; subst ht
  have := h.cord s hs
  simp; omega
end Go.Proofs.YteidpejjjphecaaGreatDoor
