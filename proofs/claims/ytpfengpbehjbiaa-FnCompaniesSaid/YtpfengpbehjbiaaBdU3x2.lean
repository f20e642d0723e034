/- Several texts in one: The drawing of a control. Written by a program (gen_u3.py). A number that is taken from the code; quiet callees. -/
import Derived.Deep.DeepCutAuto
import Derived.Test.YtpfengpbehjbiaaBdM5x7
import Derived.Test.YtpfengpbehjbiaaBdW1x3
import Derived.Test.YtpfengpbehjbiaaBdK1x7
import Derived.Test.YtpfengpbehjbiaaBdM7x3
namespace Go.Proofs.Ytpfengpbehjbiaa
open Go.RowKit
theorem l01Once_any (n : Int) (w0 w : World) (g : Nat) (A : Option Addr) (c : Nat) (bs : List Int) (hcur : Cur w0 w g A c bs) (hn0 : 0 < n) (hn : n ≤ 256) :
  Calls Try.prog 46 #[.pointer (some ⟨g, 0, none⟩), .int .i64 n] w fun e w' => ∃ b : Bool, e = .returned (.bool b) ∧ Cur w0 w' g A c bs ∧ Chg [g] w w' := by
 go_enter Try.func46, Try.ntmps46
 go_wp2_with fail
 refine (l01Below_any n w0 w g A c bs hcur hn0 hn).mono ?_
 rintro e w' ⟨r, rfl, ⟨hr0, hr1⟩, hc, hch⟩
 go_wp2_with fail
 go_ret
 exact ⟨_, rfl, hc, hch⟩
def JR (C O : World → Prop) (m : Nat) (d : Nat → Bool) (w : World) : Prop := C w ∧ (d m = false → O w)
theorem JR.to {C O : World → Prop} {m i : Nat} {d : Nat → Bool} {w w' : World} (h : JR C O m d w) (hC : C w → C w') (hO : O w → O w') (hi : i ≠ m) : JR C O m (setD d i) w' :=
 ⟨hC h.1, fun e => hO (h.2 (by rwa [setD_ne hi] at e))⟩
theorem JR.same {C O : World → Prop} {m i : Nat} {d : Nat → Bool} {w : World} (h : JR C O m d w) (hi : i ≠ m) : JR C O m (setD d i) w := h.to id id hi
theorem JR.done {C O : World → Prop} {m : Nat} {d : Nat → Bool} {w : World} (h : C w) : JR C O m (setD d m) w := ⟨h, fun e => by rw [setD_self] at e; cases e⟩
structure BoxC (w0 w : World) (g : Nat) (A : Option Addr) (c : Nat) (bs : List Int) (xb rb : Nat) (xs rs : List Value) (W : World) : Prop where
 cur : Cur w0 W g A c bs
 chg : Chg [g] w W
 lx : Loc W xb xs
 lr : Loc W rb rs
 sz : xb < W.heap.size
section
variable {w0 w W W' : World} {g : Nat} {A : Option Addr} {c : Nat} {bs : List Int} {xb rb : Nat} {xs rs : List Value}
theorem BoxC.below (h : BoxC w0 w g A c bs xb rb xs rs W) (hb : Below W.heap.size W W') : BoxC w0 w g A c bs xb rb xs rs W' :=
 ⟨h.cur.keep hb, h.chg.trans (Chg.of_below hb _), h.lx.below hb, h.lr.below hb, Nat.lt_of_lt_of_le h.sz hb.size⟩
theorem BoxC.draw (h : BoxC w0 w g A c bs xb rb xs rs W) (hc : Cur w0 W' g A c bs) (hch : Chg [g] W W') (hx : g ≠ xb) (hr : g ≠ rb) : BoxC w0 w g A c bs xb rb xs rs W' :=
 ⟨hc, h.chg.trans hch, h.lx.chg hch (by simpa using hx.symm), h.lr.chg hch (by simpa using hr.symm), Nat.lt_of_lt_of_le h.sz hch.size⟩
theorem BoxC.grown (h : BoxC w0 w g A c bs xb rb xs rs W) {B : Nat} {e : TypeId} {size n : Nat} {v : Value} {ys : List Value} (hown : W.ownsRow B e size v n ys) (hgr : W.grownBy W' v.ownBlock) (hx : xb < B) (hr : rb < B) (hg : g < B) (hw : w.heap.size ≤ B) (hw0 : w0.heap.size ≤ B) : BoxC w0 w g A c bs xb rb xs rs W' := by
 have hlt : ∀ b ∈ v.ownBlock.toList, B ≤ b := fun b hb => (hown.lt b (by simpa using hb)).1
 exact ⟨cur_own h.cur hown hgr hg hw0, chg_of_own h.chg (own_mono hown hw) hgr, h.lx.chg (Chg.of_grown hgr) (fun hm => by have := hlt _ hm; omega), h.lr.chg (Chg.of_grown hgr) (fun hm => by have := hlt _ hm; omega), Nat.lt_of_lt_of_le h.sz hgr.size⟩
theorem BoxC.store (h : BoxC w0 w g A c bs xb rb xs rs W) {i : Nat} {u v : Value} (hi : xs[i]? = some v) (hx : w.heap.size ≤ xb) (hw0 : w0.heap.size ≤ w.heap.size) (hgx : g ≠ xb) (hr : rb ≠ xb) : BoxC w0 w g A c bs xb rb (xs.set i u) rs (W.setCell ⟨xb, i, none⟩ u) := by
 have hch : Chg [xb] W (W.setCell ⟨xb, i, none⟩ u) := chg_set (Chg.refl _ _) (by simp)
 refine ⟨h.cur.chg hch (by simpa using hgx) (fun b hb => by simp at hb; omega), ⟨hch.os.trans h.chg.os, hch.tape.trans h.chg.tape, hch.output.trans h.chg.output, Nat.le_trans h.chg.size hch.size, fun k hk hn => (hch.block k (Nat.lt_of_lt_of_le hk h.chg.size) (by simp; omega)).trans (h.chg.block k hk hn)⟩, h.lx.set hi, h.lr.far hr, Nat.lt_of_lt_of_le h.sz hch.size⟩
end
theorem own_draw {W W' : World} {B g : Nat} {e : TypeId} {size n : Nat} {v : Value} {ys : List Value} (h : W.ownsRow B e size v n ys) (hch : Chg [g] W W') (hg : g < B) : W'.ownsRow B e size v n ys :=
 own_chg h hch (fun b hb hb' => by have := (h.lt b (by simpa using hb)).1; simp at hb'; omega)
structure CordsTo (m j : Nat) (l : List RCord) : Prop where
 len : l.length ≤ j
 cord : ∀ t ∈ l, (0 ≤ t.1 ∧ t.1 < m) ∧ (0 ≤ t.2.1 ∧ t.2.1 < j) ∧ 0 ≤ t.2.2 ∧ t.2.2 ≤ 59
 once : l.Pairwise (fun a b => a.2.1 ≠ b.2.1)
theorem CordsTo.start (m : Nat) : CordsTo m 0 [] := ⟨Nat.le_refl _, by simp, List.Pairwise.nil⟩
theorem CordsTo.skip {m j : Nat} {l : List RCord} (h : CordsTo m j l) : CordsTo m (j + 1) l := ⟨Nat.le_succ_of_le h.len, fun t ht => by have := h.cord t ht; omega, h.once⟩
theorem CordsTo.snoc {m j : Nat} {l : List RCord} (h : CordsTo m j l) {a x : Int} (ha : 0 ≤ a ∧ a < m) (hx : 0 ≤ x ∧ x ≤ 59) : CordsTo m (j + 1) (l ++ [(a, (j : Int), x)]) := by
 refine ⟨by rw [List.length_append]; have := h.len; simp; omega, fun t ht => ?_, ?_⟩
 ·rcases List.mem_append.1 ht with ht | ht
  ·have := h.cord t ht; omega
  ·simp at ht; subst ht; simp; omega
 ·rw [List.pairwise_append]
  refine ⟨h.once, List.pairwise_singleton _ _, fun s hs t ht => ?_⟩
  simp at ht; subst ht
  have := h.cord s hs
  simp; omega
open Go.RowKit
def atV (bs : List Int) (k : Nat) : Int := if bs.length = 0 then 0 else bs.getD ((k * 5 + 1) % bs.length) 0
theorem atV_bd {bs : List Int} (h : ∀ x ∈ bs, 0 ≤ x ∧ x ≤ 255) (k : Nat) : 0 ≤ atV bs k ∧ atV bs k ≤ 255 := by
 unfold atV
 split
 ·omega
 ·rename_i h0
  have hlt : (k * 5 + 1) % bs.length < bs.length := Nat.mod_lt _ (by omega)
  rw [getD_at hlt]
  exact h _ (List.getElem_mem hlt)
set_option maxHeartbeats 1000000 in
theorem at_v (A : Option Addr) (c : Nat) (bs : List Int) (k : Nat) (w : World) (h : RdL cU8 1 w (.slice A bs.length c) bs) (hby : ∀ x ∈ bs, 0 ≤ x ∧ x ≤ 255) (hlen : bs.length ≤ 1048576) (hk : k ≤ 1048576) :
  Calls Try.prog 17 #[.slice A bs.length c, .int .i64 k] w fun e w' => e = .returned (.int .i64 (atV bs k)) ∧ w = w' := by
 by_cases hl : bs.length = 0
 ·have hl' : ((bs.length : Int) == 0) = true := by rw [beq_iff_eq]; omega
  have hv : atV bs k = 0 := by unfold atV; rw [if_pos hl]
  rw [hv]
  go_enter Try.func17, Try.ntmps17
  go_wp2_with fail
  go_ret
  exact ⟨rfl, rfl⟩
 ·have hl' : ((bs.length : Int) == 0) = false := by rw [beq_eq_false_iff_ne]; omega
  have hlt : (k * 5 + 1) % bs.length < bs.length := Nat.mod_lt _ (by omega)
  have ht : ((k : Int) * 5 + 1).tmod bs.length = (((k * 5 + 1) % bs.length : Nat) : Int) := by rw [Int.tmod_eq_emod_of_nonneg (by omega)]; rfl
  have hv : atV bs k = bs[(k * 5 + 1) % bs.length] := by unfold atV; rw [if_neg hl, getD_at hlt]
  rw [hv]
  generalize (k * 5 + 1) % bs.length = n at *
  obtain ⟨g, off, rfl, hg, hc⟩ := h.cell (fun _ => rfl) (by omega) hlt
  have k0 := hc 0 _ rfl
  simp only [Nat.add_zero, Nat.mul_one] at k0
  clear hc
  have hx := hby _ (List.getElem_mem hlt)
  generalize bs[n] = x at *
  clear hv
  go_enter Try.func17, Try.ntmps17
  go_wp2_with fail
  go_ret
  exact ⟨rfl, rfl⟩
end Go.Proofs.Ytpfengpbehjbiaa
