/- The drawing of a control. Written by a program (gen_u3.py). -/
import Derived.Test.YtkejgogheonakaaM11
import Derived.Test.YtkejgogheonakaaW4
import Derived.Test.YtkejgogheonakaaU1
import Derived.Test.YtkejgogheonakaaM8
import Derived.Deep.DeepCutAuto
namespace Go.Proofs.Ytkejgogheonakaa
open Go.RowKit
theorem l01Once_any (n : Int) (w0 w : World) (g : Nat) (A : Option Addr) (c : Nat) (bs : List Int) (hcur : Cur w0 w g A c bs) (hn0 : 0 < n) (hn : n ≤ 256) :
    Calls Try.prog 139 #[.pointer (some ⟨g, 0, none⟩), .int .i64 n] w fun e w' => ∃ b : Bool, e = .returned (.bool b) ∧ Cur w0 w' g A c bs ∧ Chg [g] w w' := by
  go_enter Try.func139, Try.ntmps139
  go_wp2_with fail
  refine (l01Below_any n w0 w g A c bs hcur hn0 hn).mono ?_
  rintro e w' ⟨r, rfl, ⟨hr0, hr1⟩, hc, hch⟩
  go_wp2_with fail
  go_ret
  exact ⟨_, rfl, hc, hch⟩
/-- A state: what stands all along, and a row that is there till operation m has come. -/
def JR (C O : World → Prop) (m : Nat) (d : Nat → Bool) (w : World) : Prop := C w ∧ (d m = false → O w)
theorem JR.to {C O : World → Prop} {m i : Nat} {d : Nat → Bool} {w w' : World} (h : JR C O m d w) (hC : C w → C w') (hO : O w → O w') (hi : i ≠ m) : JR C O m (setD d i) w' :=
  ⟨hC h.1, fun e => hO (h.2 (by rwa [setD_ne hi] at e))⟩
theorem JR.same {C O : World → Prop} {m i : Nat} {d : Nat → Bool} {w : World} (h : JR C O m d w) (hi : i ≠ m) : JR C O m (setD d i) w := h.to id id hi
theorem JR.done {C O : World → Prop} {m : Nat} {d : Nat → Bool} {w : World} (h : C w) : JR C O m (setD d m) w := ⟨h, fun e => by rw [setD_self] at e; cases e⟩
/-- The cursor, a box that is built up, a box for the result. -/
structure BoxC (w0 w : World) (g : Nat) (A : Option Addr) (c : Nat) (bs : List Int) (xb rb : Nat) (xs rs : List Value) (W : World) : Prop where
  cur : Cur w0 W g A c bs
  chg : Chg [g] w W
  lx : Loc W xb xs
  lr : Loc W rb rs
  sz : xb < W.heap.size
section
variable {w0 w W W' : World} {g : Nat} {A : Option Addr} {c : Nat} {bs : List Int} {xb rb : Nat} {xs rs : List Value}
theorem BoxC.below (h : BoxC w0 w g A c bs xb rb xs rs W) (hb : Below W.heap.size W W') : BoxC w0 w g A c bs xb rb xs rs W' :=
  ⟨h.cur.keep hb, h.chg.trans (Chg.of_below hb _), h.lx.below hb, h.lr.below hb, Nat.lt_of_lt_of_le h.sz hb.size⟩
theorem BoxC.draw (h : BoxC w0 w g A c bs xb rb xs rs W) (hc : Cur w0 W' g A c bs) (hch : Chg [g] W W') (hx : g ≠ xb) (hr : g ≠ rb) : BoxC w0 w g A c bs xb rb xs rs W' :=
  ⟨hc, h.chg.trans hch, h.lx.chg hch (by simpa using hx.symm), h.lr.chg hch (by simpa using hr.symm), Nat.lt_of_lt_of_le h.sz hch.size⟩
theorem BoxC.grown (h : BoxC w0 w g A c bs xb rb xs rs W) {B : Nat} {e : TypeId} {size n : Nat} {v : Value} {ys : List Value} (hown : W.ownsRow B e size v n ys) (hgr : W.grownBy W' v.ownBlock) (hx : xb < B) (hr : rb < B) (hg : g < B) (hw : w.heap.size ≤ B) (hw0 : w0.heap.size ≤ B) : BoxC w0 w g A c bs xb rb xs rs W' := by
  have hlt : ∀ b ∈ v.ownBlock.toList, B ≤ b := fun b hb => (hown.lt b (by simpa using hb)).1
  exact ⟨cur_own h.cur hown hgr hg hw0, chg_of_own h.chg (own_mono hown hw) hgr, h.lx.chg (Chg.of_grown hgr) (fun hm => by have := hlt _ hm; omega), h.lr.chg (Chg.of_grown hgr) (fun hm => by have := hlt _ hm; omega), Nat.lt_of_lt_of_le h.sz hgr.size⟩
theorem BoxC.store (h : BoxC w0 w g A c bs xb rb xs rs W) {i : Nat} {u v : Value} (hi : xs[i]? = some v) (hx : w.heap.size ≤ xb) (hw0 : w0.heap.size ≤ w.heap.size) (hgx : g ≠ xb) (hr : rb ≠ xb) : BoxC w0 w g A c bs xb rb (xs.set i u) rs (W.setCell ⟨xb, i, none⟩ u) := by
  have hch : Chg [xb] W (W.setCell ⟨xb, i, none⟩ u) := chg_set (Chg.refl _ _) (by simp)
  refine ⟨h.cur.chg hch (by simpa using hgx) (fun b hb => by simp at hb; omega), ⟨hch.os.trans h.chg.os, hch.tape.trans h.chg.tape, hch.output.trans h.chg.output, Nat.le_trans h.chg.size hch.size, fun k hk hn => (hch.block k (Nat.lt_of_lt_of_le hk h.chg.size) (by simp; omega)).trans (h.chg.block k hk hn)⟩, h.lx.set hi, h.lr.far hr, Nat.lt_of_lt_of_le h.sz hch.size⟩
end
theorem own_set {W : World} {B xb i : Nat} {u : Value} {e : TypeId} {size n : Nat} {v : Value} {ys : List Value} (h : W.ownsRow B e size v n ys) (hx : xb < B) : (W.setCell ⟨xb, i, none⟩ u).ownsRow B e size v n ys :=
  own_chg h (S := [xb]) (chg_set (Chg.refl _ _) (by simp)) (fun b hb hb' => by have := (h.lt b (by simpa using hb)).1; simp at hb'; omega)
theorem chg_grown {W W' : World} {B : Nat} {e : TypeId} {size n : Nat} {v : Value} {ys : List Value} (_ : W.ownsRow B e size v n ys) (hgr : W.grownBy W' v.ownBlock) : Chg v.ownBlock.toList W W' := Chg.of_grown hgr
theorem own_draw {W W' : World} {B g : Nat} {e : TypeId} {size n : Nat} {v : Value} {ys : List Value} (h : W.ownsRow B e size v n ys) (hch : Chg [g] W W') (hg : g < B) : W'.ownsRow B e size v n ys :=
  own_chg h hch (fun b hb hb' => by have := (h.lt b (by simpa using hb)).1; simp at hb'; omega)
def ControlPost (w0 w : World) (g : Nat) (A : Option Addr) (c : Nat) (bs : List Int) (n : Nat) (e : Ending) (w' : World) : Prop :=
  ∃ (ht : Int) (v1 v2 : Value) (d1 : List Int) (d2 : List RCord), e = .returned (.agg #[.int .i64 ht, v1, v2]) ∧ (w'.ownsRow w.heap.size 3 1 v1 d1.length (d1.flatMap cInt) ∧ w'.ownsRow w.heap.size 106 3 v2 d2.length (d2.flatMap cCord)) ∧ (CtlOk n ht d1 d2 ∧ ht ≤ 79) ∧ Cur w0 w' g A c bs ∧ Chg [g] w w'
/-- cords up to joint j -/
structure CordsTo (m j : Nat) (l : List RCord) : Prop where
  len : l.length ≤ j
  cord : ∀ t ∈ l, (0 ≤ t.1 ∧ t.1 < m) ∧ (0 ≤ t.2.1 ∧ t.2.1 < j) ∧ 0 ≤ t.2.2 ∧ t.2.2 ≤ 59
  once : l.Pairwise (fun a b => a.2.1 ≠ b.2.1)
theorem CordsTo.start (m : Nat) : CordsTo m 0 [] := ⟨Nat.le_refl _, by simp, List.Pairwise.nil⟩
theorem CordsTo.skip {m j : Nat} {l : List RCord} (h : CordsTo m j l) : CordsTo m (j + 1) l := ⟨Nat.le_succ_of_le h.len, fun t ht => by have := h.cord t ht; omega, h.once⟩
theorem CordsTo.snoc {m j : Nat} {l : List RCord} (h : CordsTo m j l) {a x : Int} (ha : 0 ≤ a ∧ a < m) (hx : 0 ≤ x ∧ x ≤ 59) : CordsTo m (j + 1) (l ++ [(a, (j : Int), x)]) := by
  refine ⟨by rw [List.length_append]; have := h.len; simp; omega, fun t ht => ?_, ?_⟩
  · rcases List.mem_append.1 ht with ht | ht
    · have := h.cord t ht; omega
    · simp at ht; subst ht; simp; omega
  · rw [List.pairwise_append]
    refine ⟨h.once, List.pairwise_singleton _ _, fun s hs t ht => ?_⟩
    simp at ht; subst ht
    have := h.cord s hs
    simp; omega
theorem ctl_of {n m : Nat} {ht : Int} {d1 : List Int} {d2 : List RCord} (h : CordsTo m n d2) (h1 : d1.length = m) (hm : 1 ≤ m ∧ m ≤ 5) (hd : ∀ x ∈ d1, -10 ≤ x ∧ x ≤ 10) (hh : 20 ≤ ht ∧ ht ≤ 79) (hn : n ≤ 12) : CtlOk n ht d1 d2 :=
  ⟨by omega, by omega, hd, by have := h.len; omega, fun t ht => by rw [h1]; exact h.cord t ht, h.once⟩
theorem act53c5 {a : Act} (h : a.tmps.size = 53) (hd : a.defers = []) : ∃ x0 x1 x2 x3 x4 x5 x6 x7 x8 x9 x10 x11 x12 x13 x14 x15 x16 x17 x18 x19 x20 x21 x22 x23 x24 x25 x26 x27 x28 x29 x30 x31 x32 x33 x34 x35 x36 x37 x38 x39 x40 x41 x42 x43 x44 x45 x46 x47 x48 x49 x50 x51 x52 : Value, a = ⟨#[x0, x1, x2, x3, x4, x5, x6, x7, x8, x9, x10, x11, x12, x13, x14, x15, x16, x17, x18, x19, x20, x21, x22, x23, x24, x25, x26, x27, x28, x29, x30, x31, x32, x33, x34, x35, x36, x37, x38, x39, x40, x41, x42, x43, x44, x45, x46, x47, x48, x49, x50, x51, x52], []⟩ := by
  obtain ⟨⟨l⟩, d⟩ := a
  subst hd
  match l, h with
  | x0 :: x1 :: x2 :: x3 :: x4 :: x5 :: x6 :: x7 :: x8 :: x9 :: x10 :: x11 :: x12 :: x13 :: x14 :: x15 :: x16 :: x17 :: x18 :: x19 :: x20 :: x21 :: x22 :: x23 :: x24 :: x25 :: x26 :: x27 :: x28 :: x29 :: x30 :: x31 :: x32 :: x33 :: x34 :: x35 :: x36 :: x37 :: x38 :: x39 :: x40 :: x41 :: x42 :: x43 :: x44 :: x45 :: x46 :: x47 :: x48 :: x49 :: x50 :: x51 :: x52 :: [], _ => exact ⟨x0, x1, x2, x3, x4, x5, x6, x7, x8, x9, x10, x11, x12, x13, x14, x15, x16, x17, x18, x19, x20, x21, x22, x23, x24, x25, x26, x27, x28, x29, x30, x31, x32, x33, x34, x35, x36, x37, x38, x39, x40, x41, x42, x43, x44, x45, x46, x47, x48, x49, x50, x51, x52, rfl⟩
def r6cP (g xb k : Nat) (q : Value) (ys : List Value) (i : Nat) (v : Value) (_ : Nat → Nat) (w : World) : Prop :=
  match i with
  | 0 => v = .pointer (some ⟨xb, 1, none⟩)
  | 1 => v = q
  | 2 => v = .pointer (some ⟨g, 0, none⟩)
  | 3 => ∃ r : Int, v = .int .i64 r ∧ 0 ≤ r ∧ r < 21
  | 4 => ∃ a : Int, v = .int .i64 a ∧ -10 ≤ a ∧ a ≤ 10
  | 5 => ∃ a : Int, (-10 ≤ a ∧ a ≤ 10) ∧ RdS w 1 v 1 [Value.int .i64 a]
  | 6 => ∃ a : Int, (-10 ≤ a ∧ a ≤ 10) ∧ w.ownsRow (xb + 1) 3 1 v (k + 1) (ys ++ [Value.int .i64 a])
  | 7 => v = .pointer (some ⟨xb, 1, none⟩)
  | _ => True
def r6cNeed (k : Nat) : List Nat := if k = 1 then [0] else if k = 3 then [2] else if k = 4 then [3] else if k = 5 then [4] else if k = 6 then [1, 5] else []
def r6cBef (k : Nat) : List Nat := if k = 1 then [0] else if k = 3 then [2] else if k = 4 then [3, 2] else if k = 5 then [4, 3, 2] else if k = 6 then [1, 0, 5, 4, 3, 2] else []
def r6cR (k : Nat) (_ : Nat → Nat) (w w' : World) : Prop := k = 3 ∨ k = 6 ∨  Below w.heap.size w w'
def r11cP (g xb k m j B2 : Nat) (u : Value) (ys : List Value) (i : Nat) (v : Value) (_ : Nat → Nat) (w : World) : Prop :=
  match i with
  | 0 => v = .pointer (some ⟨xb, 2, none⟩)
  | 1 => v = u
  | 2 => v = .pointer (some ⟨g, 0, none⟩)
  | 3 => v = .int .i64 m
  | 4 => ∃ a : Int, v = .int .i64 a ∧ 0 ≤ a ∧ a < m
  | 5 => v = .int .i64 j
  | 6 => v = .pointer (some ⟨g, 0, none⟩)
  | 7 => ∃ x : Int, v = .int .i64 x ∧ 0 ≤ x ∧ x < 60
  | 8 => ∃ a x : Int, v = .agg #[.int .i64 a, .int .i64 j, .int .i64 x] ∧ ((0 ≤ a ∧ a < m) ∧ 0 ≤ x ∧ x ≤ 59)
  | 9 => ∃ a x : Int, ((0 ≤ a ∧ a < m) ∧ 0 ≤ x ∧ x ≤ 59) ∧ RdS w 3 v 1 [Value.int .i64 a, Value.int .i64 j, Value.int .i64 x]
  | 10 => ∃ a x : Int, ((0 ≤ a ∧ a < m) ∧ 0 ≤ x ∧ x ≤ 59) ∧ w.ownsRow B2 106 3 v (k + 1) (ys ++ [Value.int .i64 a, Value.int .i64 j, Value.int .i64 x])
  | 11 => v = .pointer (some ⟨xb, 2, none⟩)
  | _ => True
def r11cNeed (k : Nat) : List Nat := if k = 1 then [0] else if k = 4 then [2, 3] else if k = 7 then [6] else if k = 8 then [4, 5, 7] else if k = 9 then [8] else if k = 10 then [1, 9] else []
def r11cBef (k : Nat) : List Nat := if k = 1 then [0] else if k = 4 then [2, 3] else if k = 7 then [6] else if k = 8 then [4, 2, 3, 5, 7, 6] else if k = 9 then [8, 4, 2, 3, 5, 7, 6] else if k = 10 then [1, 0, 9, 8, 4, 2, 3, 5, 7, 6] else []
def r11cR (k : Nat) (_ : Nat → Nat) (w w' : World) : Prop := k = 4 ∨ k = 7 ∨ k = 10 ∨  Below w.heap.size w w'
set_option maxHeartbeats 8000000 in
set_option maxRecDepth 100000 in
theorem l05Control_any (w0 w : World) (g : Nat) (A : Option Addr) (c : Nat) (bs : List Int) (n : Nat) (hn : n ≤ 12) (hcur : Cur w0 w g A c bs) :
    Calls Try.prog 76 #[.pointer (some ⟨g, 0, none⟩), .int .i64 n] w (ControlPost w0 w g A c bs n) := by
  have hglt := hcur.lt
  have hw0 := hcur.below.size
  obtain ⟨iI, hiI, hzI0, hzI1, hzI2⟩ := info_parts infoInt
  obtain ⟨iC, hiC, hzC0, hzC1, hzC2⟩ := info_parts infoCord
  go_enter Try.func76, Try.ntmps76
  go_wp2_with fail
  refine (l01Below_any 60 w0 _ g A c bs (hcur.keep ((Below.refl _ _).alloc (Nat.le_refl _) _)) (by omega) (by omega)).mono ?_
  rintro e w1 ⟨r, rfl, ⟨hr0, hr1⟩, hc1, hch1⟩
  have hz1 := hch1.size
  simp at hz1
  have lr0 : Loc w1 w.heap.size [.int .i64 0, .slice none 0 0, .slice none 0 0] := (Loc.new w #[.int .i64 0, .slice none 0 0, .slice none 0 0] 34).chg hch1 (by simp; omega)
  have hcw1 : Chg [g] w w1 := ((Chg.refl [g] w).alloc _).trans hch1
  obtain ⟨ht, hht⟩ : ∃ ht : Int, 20 + r = ht := ⟨_, rfl⟩
  have hhb : 20 ≤ ht ∧ ht ≤ 79 := by omega
  obtain ⟨rb, hrb⟩ : ∃ rb, w.heap.size = rb := ⟨_, rfl⟩
  obtain ⟨xb, hxb⟩ : ∃ xb, w1.heap.size = xb := ⟨_, rfl⟩
  have hB : BoxC w0 w g A c bs xb rb [.int .i64 ht, .slice none 0 0, .slice none 0 0] [.int .i64 0, .slice none 0 0, .slice none 0 0] (w1.alloc (.cells #[.int .i64 ht, .slice none 0 0, .slice none 0 0] 34)) :=
    ⟨hc1.keep ((Below.refl _ _).alloc (Nat.le_refl _) _), hcw1.alloc _, by rw [← hxb]; exact Loc.new w1 #[.int .i64 ht, .slice none 0 0, .slice none 0 0] 34, by rw [← hrb]; exact lr0.alloc _, by simp; omega⟩
  have hown0 : (w1.alloc (.cells #[.int .i64 ht, .slice none 0 0, .slice none 0 0] 34)).ownsRow (xb + 1) 3 1 (.slice none 0 0) 0 [] := World.ownsRow_nil _ _ _ _
  have hown1 : (w1.alloc (.cells #[.int .i64 ht, .slice none 0 0, .slice none 0 0] 34)).ownsRow (xb + 1) 106 3 (.slice none 0 0) 0 [] := World.ownsRow_nil _ _ _ _
  go_wp2_with fail
  (try rw [hht]); (try rw [hrb]); (try rw [hxb])
  generalize w1.alloc (.cells #[.int .i64 ht, .slice none 0 0, .slice none 0 0] 34) = W1 at *
  have hgx : g ≠ xb := by omega
  have hgr : g ≠ rb := by omega
  have hrx : rb ≠ xb := by omega
  have hrlx : rb < xb := by omega
  have hwxb : w.heap.size ≤ xb := by omega
  clear lr0 hcw1 hc1 hch1 hz1
  refine (l01Below_any 5 w0 _ g A c bs hB.cur (by omega) (by omega)).mono ?_
  rintro e w2 ⟨r2, rfl, ⟨hr20, hr21⟩, hc2, hch2⟩
  have hB2 := hB.draw hc2 hch2 hgx hgr
  have hown2 := own_draw hown0 hch2 (by omega)
  obtain ⟨m, hm⟩ : ∃ m : Nat, 1 + r2 = (m : Int) := ⟨(1 + r2).toNat, by omega⟩
  have hm5 : 1 ≤ m ∧ m ≤ 5 := by omega
  clear hB hc2 hch2 hown0 hown1
  go_upto_region 3 with (fail)
  (try rw [hm])
  have Hm := Lib.hid hm
  clear hm
  go_wp2_with fail
  go_loopw [7] (fun i wr => ∃ (k : Nat) (q : Value) (l : List Int), k ≤ m ∧ i = .int .i64 k ∧ Hid (l.length = k) ∧ Hid (∀ x ∈ l, -10 ≤ x ∧ x ≤ 10) ∧ wr.ownsRow (xb + 1) 3 1 q k (l.flatMap cInt) ∧ BoxC w0 w g A c bs xb rb [.int .i64 ht, q, .slice none 0 0] [.int .i64 0, .slice none 0 0, .slice none 0 0] wr) (fun i _ => m - (intOf i).toNat)
  case atStart => exact ⟨0, _, [], Nat.zero_le _, rfl, rfl, by simp [Hid], hown2, hB2⟩
  case round =>
    obtain ⟨k, q, l, hk, rfl, hl, hval, hown, hbc⟩ := hrel
    by_cases hlt : k < m
    · obtain ⟨ys, hys⟩ : ∃ ys, l.flatMap cInt = ys := ⟨_, rfl⟩
      rw [hys] at hown
      have HY := Lib.hid hys
      clear hys
      have hxs := hbc.sz
      go_upto_region 6 with (fail)
      refine region_state (n := 53) 8 (by kernel_rfl) rfl (by kernel_rfl) r6cBef r6cNeed [6, 7] (by kernel_rfl) r6cR (JR (BoxC w0 w g A c bs xb rb [.int .i64 ht, q, .slice none 0 0] [.int .i64 0, .slice none 0 0, .slice none 0 0]) (fun W => W.ownsRow (xb + 1) 3 1 q k ys) 6) (fun _ => 0) (r6cP g xb k q ys) (⟨hbc.below (Below.refl _ _).drew, fun _ => hown⟩) ?_ ?_ ?_
      · intro i k v gh gh' w1 w2 hal hp hJ hR hg
        match i, hp, hal with
        | 0, hp, _ => exact hp
        | 1, hp, _ => exact hp
        | 2, hp, _ => exact hp
        | 3, hp, _ => exact hp
        | 4, hp, _ => exact hp
        | 5, ho, hal =>
          rcases hR with rfl | rfl | hb
          · exact absurd hal (by decide)
          · exact absurd hal (by decide)
          · obtain ⟨a, h1, h2⟩ := ho; exact ⟨a, h1, h2.below hb⟩
        | 6, ho, hal =>
          rcases hR with rfl | rfl | hb
          · exact absurd hal (by decide)
          · exact absurd hal (by decide)
          · obtain ⟨a, h1, h2⟩ := ho; exact ⟨a, h1, own_below h2 hb⟩
        | 7, hp, _ => exact hp
        | _ + 8, _, _ => trivial
      · refine ⟨?_, ?_, ?_, ?_, ?_, ?_, ?_, ?_, trivial⟩
        all_goals
          intro a gh wr d hag hdi hcl hJ hd
          obtain ⟨x0, x1, x2, x3, x4, x5, x6, x7, x8, x9, x10, x11, x12, x13, x14, x15, x16, x17, x18, x19, x20, x21, x22, x23, x24, x25, x26, x27, x28, x29, x30, x31, x32, x33, x34, x35, x36, x37, x38, x39, x40, x41, x42, x43, x44, x45, x46, x47, x48, x49, x50, x51, x52, rfl⟩ := act53c5 hag.size hag.defers
          have ag0 : x0 = .pointer (some ⟨g, 0, none⟩) := hag.kept 0 (by kernel_rfl)
          have ag5 : x5 = .pointer (some ⟨xb, 0, none⟩) := hag.kept 5 (by kernel_rfl)
          clear hag
          subst ag0 ag5
        · go_wp2_with fail
          exact ⟨rfl, _, rfl, rfl, hJ.same (by decide), .inr (.inr (Below.refl _ _))⟩
        · have e0 : x21 = .pointer (some ⟨xb, 1, none⟩) := hd 0 (by kernel_rfl) _ rfl
          subst e0
          have c1 := (hJ.1.lx 1 _ rfl).1
          go_wp2_with fail
          exact ⟨rfl, _, rfl, rfl, hJ.same (by decide), .inr (.inr (Below.refl _ _))⟩
        · go_wp2_with fail
          exact ⟨rfl, _, rfl, rfl, hJ.same (by decide), .inr (.inr (Below.refl _ _))⟩
        · have e2 : x23 = .pointer (some ⟨g, 0, none⟩) := hd 2 (by kernel_rfl) _ rfl
          subst e2
          go_wp2_with fail
          refine (l01Below_any 21 w0 _ g A c bs hJ.1.cur (by omega) (by omega)).mono ?_
          rintro e w9 ⟨r9, rfl, ⟨h90, h91⟩, hc9, hch9⟩
          go_wp2_with fail
          exact ⟨rfl, _, rfl, ⟨r9, rfl, h90, h91⟩, hJ.to (fun h => h.draw hc9 hch9 hgx hgr) (fun h => own_draw h hch9 (by omega)) (by decide), .inl rfl⟩
        · obtain ⟨r9, e3, h90, h91⟩ : ∃ r : Int, x24 = Value.int .i64 r ∧ 0 ≤ r ∧ r < 21 := hd 3 (by kernel_rfl) _ rfl
          subst e3
          go_wp2_with fail
          exact ⟨rfl, _, rfl, ⟨r9 - 10, rfl, by omega, by omega⟩, hJ.same (by decide), .inr (.inr (Below.refl _ _))⟩
        · obtain ⟨a9, e4, h90⟩ : ∃ a : Int, x25 = Value.int .i64 a ∧ -10 ≤ a ∧ a ≤ 10 := hd 4 (by kernel_rfl) _ rfl
          subst e4
          go_wp2_with fail
          exact ⟨rfl, _, rfl, ⟨a9, h90, rdS_new wr #[.int .i64 a9] _ 1 1 rfl (by simp [maxLen])⟩, hJ.to (fun h => h.below ((Below.refl _ _).alloc (Nat.le_refl _) _)) (fun h => h.alloc _) (by decide), .inr (.inr ((Below.refl _ _).alloc (Nat.le_refl _) _))⟩
        · have e1 : x22 = q := hd 1 (by kernel_rfl) _ rfl
          subst e1
          obtain ⟨a9, h90, hrd⟩ : ∃ a : Int, (-10 ≤ a ∧ a ≤ 10) ∧ RdS wr 1 x26 1 [Value.int .i64 a] := hd 5 (by kernel_rfl) _ rfl
          have ho := hJ.2 hdi
          have hsz := hJ.1.sz
          go_wp2_with (at_builtin; refine wpList_appendR _ rfl (.tmp 22) (.tmp 26) _ rfl (xb + 1) 3 iI _ 1 8 Try.underlying26 hiI hzI0 hzI1 hzI2 rfl (by omega) _ k ys rfl ho _ 1 [.int .i64 a9] rfl hrd (by simp [Value.oneCell']) (by simp [maxLen]; omega) (by omega) (by omega) ?_; intro v3 w3 own3 gr3)
          exact ⟨rfl, _, rfl, ⟨a9, h90, own3⟩, JR.done (hJ.1.grown ho gr3 (by omega) (by omega) (by omega) (by omega) (by omega)), .inr (.inl rfl)⟩
        · go_wp2_with fail
          exact ⟨rfl, _, rfl, rfl, hJ.same (by decide), .inr (.inr (Below.refl _ _))⟩
      · intro a gh wr d hag hall hJ hd
        obtain ⟨x0, x1, x2, x3, x4, x5, x6, x7, x8, x9, x10, x11, x12, x13, x14, x15, x16, x17, x18, x19, x20, x21, x22, x23, x24, x25, x26, x27, x28, x29, x30, x31, x32, x33, x34, x35, x36, x37, x38, x39, x40, x41, x42, x43, x44, x45, x46, x47, x48, x49, x50, x51, x52, rfl⟩ := act53c5 hag.size hag.defers
        have ag0 : x0 = .pointer (some ⟨g, 0, none⟩) := hag.kept 0 (by kernel_rfl)
        have ag1 : x1 = .int .i64 n := hag.kept 1 (by kernel_rfl)
        have ag2 : x2 = undef := hag.kept 2 (by kernel_rfl)
        have ag3 : x3 = undef := hag.kept 3 (by kernel_rfl)
        have ag4 : x4 = .pointer (some ⟨rb, 0, none⟩) := hag.kept 4 (by kernel_rfl)
        have ag5 : x5 = .pointer (some ⟨xb, 0, none⟩) := hag.kept 5 (by kernel_rfl)
        have ag6 : x6 = .int .i64 m := hag.kept 6 (by kernel_rfl)
        have ag7 : x7 = .int .i64 k := hag.kept 7 (by kernel_rfl)
        have ag8 : x8 = undef := hag.kept 8 (by kernel_rfl)
        have ag9 : x9 = .pointer (some ⟨g, 0, none⟩) := hag.kept 9 (by kernel_rfl)
        have ag10 : x10 = .int .i64 r := hag.kept 10 (by kernel_rfl)
        have ag11 : x11 = .int .i64 ht := hag.kept 11 (by kernel_rfl)
        have ag12 : x12 = .agg #[.int .i64 ht, .slice none 0 0, .slice none 0 0] := hag.kept 12 (by kernel_rfl)
        have ag13 : x13 = .pointer (some ⟨g, 0, none⟩) := hag.kept 13 (by kernel_rfl)
        have ag14 : x14 = .int .i64 r2 := hag.kept 14 (by kernel_rfl)
        have ag15 : x15 = .int .i64 m := hag.kept 15 (by kernel_rfl)
        have ag29 : x29 = undef := hag.kept 29 (by kernel_rfl)
        have ag30 : x30 = undef := hag.kept 30 (by kernel_rfl)
        have ag31 : x31 = undef := hag.kept 31 (by kernel_rfl)
        have ag32 : x32 = undef := hag.kept 32 (by kernel_rfl)
        have ag33 : x33 = undef := hag.kept 33 (by kernel_rfl)
        have ag34 : x34 = undef := hag.kept 34 (by kernel_rfl)
        have ag35 : x35 = undef := hag.kept 35 (by kernel_rfl)
        have ag36 : x36 = undef := hag.kept 36 (by kernel_rfl)
        have ag37 : x37 = undef := hag.kept 37 (by kernel_rfl)
        have ag38 : x38 = undef := hag.kept 38 (by kernel_rfl)
        have ag39 : x39 = undef := hag.kept 39 (by kernel_rfl)
        have ag40 : x40 = undef := hag.kept 40 (by kernel_rfl)
        have ag41 : x41 = undef := hag.kept 41 (by kernel_rfl)
        have ag42 : x42 = undef := hag.kept 42 (by kernel_rfl)
        have ag43 : x43 = undef := hag.kept 43 (by kernel_rfl)
        have ag44 : x44 = undef := hag.kept 44 (by kernel_rfl)
        have ag45 : x45 = undef := hag.kept 45 (by kernel_rfl)
        have ag46 : x46 = undef := hag.kept 46 (by kernel_rfl)
        have ag47 : x47 = undef := hag.kept 47 (by kernel_rfl)
        have ag48 : x48 = undef := hag.kept 48 (by kernel_rfl)
        have ag49 : x49 = undef := hag.kept 49 (by kernel_rfl)
        have ag50 : x50 = undef := hag.kept 50 (by kernel_rfl)
        have ag51 : x51 = undef := hag.kept 51 (by kernel_rfl)
        have ag52 : x52 = undef := hag.kept 52 (by kernel_rfl)
        clear hag
        subst ag0 ag1 ag2 ag3 ag4 ag5 ag6 ag7 ag8 ag9 ag10 ag11 ag12 ag13 ag14 ag15 ag29 ag30 ag31 ag32 ag33 ag34 ag35 ag36 ag37 ag38 ag39 ag40 ag41 ag42 ag43 ag44 ag45 ag46 ag47 ag48 ag49 ag50 ag51 ag52
        obtain ⟨a9, ha9, own3⟩ : ∃ a : Int, (-10 ≤ a ∧ a ≤ 10) ∧ wr.ownsRow (xb + 1) 3 1 x27 (k + 1) (ys ++ [Value.int .i64 a]) := hd 6 (by kernel_rfl) _ rfl
        have e7 : x28 = .pointer (some ⟨xb, 1, none⟩) := hd 7 (by kernel_rfl) _ rfl
        subst e7
        obtain ⟨A9, c9, e9, _, _⟩ := (RdS.of_own own3).form
        subst e9
        have hbx := hJ.1
        have c1 := (hbx.lx 1 _ rfl).1
        have f1 := (hbx.lx 1 _ rfl).2
        clear hd hJ hall
        have hb9 := hbx.store (i := 1) (u := .slice A9 (k + 1) c9) (v := q) rfl hwxb hw0 hgx hrx
        have own9 := own_set (i := 1) (u := .slice A9 (k + 1) c9) own3 (xb := xb) (by omega)
        change wpList _ _ _ [_] _ _
        go_wp2_with fail
        go_roundw
        case rel =>
          refine ⟨k + 1, .slice A9 (k + 1) c9, l ++ [a9], by omega, by go_num, ?_, ?_, ?_, hb9⟩
          · show _ = _
            rw [List.length_append, hl.out]; rfl
          · intro x hx
            rcases List.mem_append.1 hx with hx | hx
            · exact hval.out x hx
            · simp at hx; subst hx; exact ha9
          · rw [List.flatMap_append, HY.out]; exact own9
        case measure => simp [intOf]; omega
    · obtain rfl : k = m := by omega
      have hl' := hl.out
      have hq0 := hown
      obtain ⟨q0, rfl⟩ : ∃ q0 : Value, q0 = q := ⟨_, rfl⟩
      have hxs := hbc.sz
      obtain ⟨B2, hB2e⟩ : ∃ B2, wr.heap.size = B2 := ⟨_, rfl⟩
      have hxB : xb < B2 := by omega
      have hun : wr.ownsRow B2 106 3 (.slice none 0 0) 0 [] := World.ownsRow_nil _ _ _ _
      have hqlt : ∀ b ∈ q0.ownBlock.toList, b < B2 := fun b hb => by have := (hown.lt b (by simpa using hb)).2; omega
      have Hq := Lib.hid hqlt
      have HL := Lib.hid hl'
      clear hqlt hl' hl hq0
      have hBle : B2 ≤ wr.heap.size := by omega
      clear hB2e hB2 hown2 hxs hlt hk
      have hbc0 := hbc
      clear hbc
      have hown0 := hown
      clear hown
      go_wp2_with fail
      go_loopw [8] (fun i wr => ∃ (j : Nat) (u : Value) (l2 : List RCord), j ≤ n ∧ i = .int .i64 j ∧ Hid (CordsTo k j l2) ∧ wr.ownsRow B2 106 3 u l2.length (l2.flatMap cCord) ∧ wr.ownsRow (xb + 1) 3 1 q0 k (l.flatMap cInt) ∧ B2 ≤ wr.heap.size ∧ BoxC w0 w g A c bs xb rb [.int .i64 ht, q0, u] [.int .i64 0, .slice none 0 0, .slice none 0 0] wr) (fun i _ => n - (intOf i).toNat)
      case atStart => exact ⟨0, _, [], Nat.zero_le _, rfl, CordsTo.start _, hun, hown0, hBle, hbc0⟩
      case round =>
        obtain ⟨j, u, l2, hj, rfl, hct, hun2, hown, hBle, hbc⟩ := hrel
        by_cases hltj : j < n
        · have hj12 : (j : Int) < 12 := by omega
          have hjn : (j : Int) < n := by omega
          go_wp2_with fail
          refine (l01Once_any 2 w0 _ g A c bs hbc.cur (by omega) (by omega)).mono ?_
          rintro e wd ⟨b, rfl, hcd, hchd⟩
          have hbd := hbc.draw hcd hchd hgx hgr
          have hund := own_draw hun2 hchd (by omega)
          have hownd := own_draw hown hchd (by omega)
          have hBd : B2 ≤ wd.heap.size := Nat.le_trans hBle hchd.size
          clear hbc hun2 hown hBle hcd hchd
          cases b
          · go_wp2_with fail
            go_roundw
            case rel => exact ⟨j + 1, u, l2, by omega, by go_num, hct.out.skip, hund, hownd, hBd, hbd⟩
            case measure => simp [intOf]; omega
          · obtain ⟨ys, hys⟩ : ∃ ys, l2.flatMap cCord = ys := ⟨_, rfl⟩
            rw [hys] at hund
            have HY := Lib.hid hys
            clear hys
            have hk12 : l2.length ≤ 12 := by have := hct.out.len; omega
            obtain ⟨p, hp⟩ : ∃ p, l2.length = p := ⟨_, rfl⟩
            rw [hp] at hund hk12
            have HP := Lib.hid hp
            clear hp
            go_upto_region 11 with (fail)
            refine region_state (n := 53) 12 (by kernel_rfl) rfl (by kernel_rfl) r11cBef r11cNeed [10, 11] (by kernel_rfl) r11cR (JR (fun W => (BoxC w0 w g A c bs xb rb [.int .i64 ht, q0, u] [.int .i64 0, .slice none 0 0, .slice none 0 0]) W ∧ W.ownsRow (xb + 1) 3 1 q0 k (l.flatMap cInt) ∧ B2 ≤ W.heap.size) (fun W => W.ownsRow B2 106 3 u p ys) 10) (fun _ => 0) (r11cP g xb p k j B2 u ys) (⟨⟨hbd.below (Below.refl _ _).drew, hownd, hBd⟩, fun _ => hund⟩) ?_ ?_ ?_
            · intro i k v gh gh' w1 w2 hal hp hJ hR hg
              match i, hp, hal with
              | 0, hp, _ => exact hp
              | 1, hp, _ => exact hp
              | 2, hp, _ => exact hp
              | 3, hp, _ => exact hp
              | 4, hp, _ => exact hp
              | 5, hp, _ => exact hp
              | 6, hp, _ => exact hp
              | 7, hp, _ => exact hp
              | 8, hp, _ => exact hp
              | 9, ho, hal =>
                rcases hR with rfl | rfl | rfl | hb
                · exact absurd hal (by decide)
                · exact absurd hal (by decide)
                · exact absurd hal (by decide)
                · obtain ⟨a, x, h1, h2⟩ := ho; exact ⟨a, x, h1, h2.below hb⟩
              | 10, ho, hal =>
                rcases hR with rfl | rfl | rfl | hb
                · exact absurd hal (by decide)
                · exact absurd hal (by decide)
                · exact absurd hal (by decide)
                · obtain ⟨a, x, h1, h2⟩ := ho; exact ⟨a, x, h1, own_below h2 hb⟩
              | 11, hp, _ => exact hp
              | _ + 12, _, _ => trivial
            · refine ⟨?_, ?_, ?_, ?_, ?_, ?_, ?_, ?_, ?_, ?_, ?_, ?_, trivial⟩
              all_goals
                intro a gh wr d hag hdi hcl hJ hd
                obtain ⟨x0, x1, x2, x3, x4, x5, x6, x7, x8, x9, x10, x11, x12, x13, x14, x15, x16, x17, x18, x19, x20, x21, x22, x23, x24, x25, x26, x27, x28, x29, x30, x31, x32, x33, x34, x35, x36, x37, x38, x39, x40, x41, x42, x43, x44, x45, x46, x47, x48, x49, x50, x51, x52, rfl⟩ := act53c5 hag.size hag.defers
                have ag0 : x0 = .pointer (some ⟨g, 0, none⟩) := hag.kept 0 (by kernel_rfl)
                have ag5 : x5 = .pointer (some ⟨xb, 0, none⟩) := hag.kept 5 (by kernel_rfl)
                have ag6 : x6 = .int .i64 k := hag.kept 6 (by kernel_rfl)
                have ag8 : x8 = .int .i64 j := hag.kept 8 (by kernel_rfl)
                clear hag
                subst ag0 ag5 ag6 ag8
              · go_wp2_with fail
                exact ⟨rfl, _, rfl, rfl, hJ.same (by decide), .inr (.inr (.inr (Below.refl _ _)))⟩
              · have e0 : x40 = .pointer (some ⟨xb, 2, none⟩) := hd 0 (by kernel_rfl) _ rfl
                subst e0
                have c1 := (hJ.1.1.lx 2 _ rfl).1
                go_wp2_with fail
                exact ⟨rfl, _, rfl, rfl, hJ.same (by decide), .inr (.inr (.inr (Below.refl _ _)))⟩
              · go_wp2_with fail
                exact ⟨rfl, _, rfl, rfl, hJ.same (by decide), .inr (.inr (.inr (Below.refl _ _)))⟩
              · go_wp2_with fail
                exact ⟨rfl, _, rfl, rfl, hJ.same (by decide), .inr (.inr (.inr (Below.refl _ _)))⟩
              · have e2 : x42 = .pointer (some ⟨g, 0, none⟩) := hd 2 (by kernel_rfl) _ rfl
                have e3 : x43 = .int .i64 k := hd 3 (by kernel_rfl) _ rfl
                subst e2 e3
                go_wp2_with fail
                refine (l01Below_any k w0 _ g A c bs hJ.1.1.cur (by omega) (by omega)).mono ?_
                rintro e w9 ⟨r9, rfl, ⟨h90, h91⟩, hc9, hch9⟩
                go_wp2_with fail
                exact ⟨rfl, _, rfl, ⟨r9, rfl, h90, h91⟩, hJ.to (fun h => ⟨h.1.draw hc9 hch9 hgx hgr, own_draw h.2.1 hch9 (by omega), Nat.le_trans h.2.2 hch9.size⟩) (fun h => own_draw h hch9 (by omega)) (by decide), .inl rfl⟩
              · go_wp2_with fail
                exact ⟨rfl, _, rfl, rfl, hJ.same (by decide), .inr (.inr (.inr (Below.refl _ _)))⟩
              · go_wp2_with fail
                exact ⟨rfl, _, rfl, rfl, hJ.same (by decide), .inr (.inr (.inr (Below.refl _ _)))⟩
              · have e2 : x46 = .pointer (some ⟨g, 0, none⟩) := hd 6 (by kernel_rfl) _ rfl
                subst e2
                go_wp2_with fail
                refine (l01Below_any 60 w0 _ g A c bs hJ.1.1.cur (by omega) (by omega)).mono ?_
                rintro e w9 ⟨r9, rfl, ⟨h90, h91⟩, hc9, hch9⟩
                go_wp2_with fail
                exact ⟨rfl, _, rfl, ⟨r9, rfl, h90, h91⟩, hJ.to (fun h => ⟨h.1.draw hc9 hch9 hgx hgr, own_draw h.2.1 hch9 (by omega), Nat.le_trans h.2.2 hch9.size⟩) (fun h => own_draw h hch9 (by omega)) (by decide), .inr (.inl rfl)⟩
              · obtain ⟨a9, e4, h4⟩ : ∃ a : Int, x44 = Value.int .i64 a ∧ 0 ≤ a ∧ a < k := hd 4 (by kernel_rfl) _ rfl
                have e5 : x45 = .int .i64 j := hd 5 (by kernel_rfl) _ rfl
                obtain ⟨y9, e7, h7, h7'⟩ : ∃ x : Int, x47 = Value.int .i64 x ∧ 0 ≤ x ∧ x < 60 := hd 7 (by kernel_rfl) _ rfl
                subst e4 e5 e7
                go_wp2_with fail
                exact ⟨rfl, _, rfl, ⟨a9, y9, rfl, h4, h7, by omega⟩, hJ.same (by decide), .inr (.inr (.inr (Below.refl _ _)))⟩
              · obtain ⟨a9, y9, e8, h8⟩ : ∃ a x : Int, x48 = Value.agg #[.int .i64 a, .int .i64 j, .int .i64 x] ∧ ((0 ≤ a ∧ a < k) ∧ 0 ≤ x ∧ x ≤ 59) := hd 8 (by kernel_rfl) _ rfl
                subst e8
                go_wp2_with fail
                exact ⟨rfl, _, rfl, ⟨a9, y9, h8, rdS_new wr #[.int .i64 a9, .int .i64 j, .int .i64 y9] _ 3 1 rfl (by simp [maxLen])⟩, hJ.to (fun h => ⟨h.1.below ((Below.refl _ _).alloc (Nat.le_refl _) _), h.2.1.alloc _, by simp; have := h.2.2; omega⟩) (fun h => h.alloc _) (by decide), .inr (.inr (.inr ((Below.refl _ _).alloc (Nat.le_refl _) _)))⟩
              · have e1 : x41 = u := hd 1 (by kernel_rfl) _ rfl
                subst e1
                obtain ⟨a9, y9, h8, hrd⟩ : ∃ a x : Int, ((0 ≤ a ∧ a < k) ∧ 0 ≤ x ∧ x ≤ 59) ∧ RdS wr 3 x49 1 [Value.int .i64 a, Value.int .i64 j, Value.int .i64 x] := hd 9 (by kernel_rfl) _ rfl
                have ho := hJ.2 hdi
                have hsz := hJ.1.2.2
                go_wp2_with (at_builtin; refine wpList_appendR _ rfl (.tmp 41) (.tmp 49) _ rfl B2 106 iC _ 3 24 Try.underlying32 hiC hzC0 hzC1 hzC2 rfl (by omega) _ p ys rfl ho _ 1 [.int .i64 a9, .int .i64 j, .int .i64 y9] rfl hrd (by simp [Value.oneCell']) (by simp [maxLen]; omega) (by omega) (by omega) ?_; intro v3 w3 own3 gr3)
                exact ⟨rfl, _, rfl, ⟨a9, y9, h8, own3⟩, JR.done ⟨hJ.1.1.grown ho gr3 (by omega) (by omega) (by omega) (by omega) (by omega), own_chg hJ.1.2.1 (chg_grown ho gr3) (fun b hb hb' => by have := (ho.lt b (by simpa using hb')).1; have := Hq.out b hb; omega), Nat.le_trans hsz gr3.size⟩, .inr (.inr (.inl rfl))⟩
              · go_wp2_with fail
                exact ⟨rfl, _, rfl, rfl, hJ.same (by decide), .inr (.inr (.inr (Below.refl _ _)))⟩
            · intro a gh wr d hag hall hJ hd
              obtain ⟨x0, x1, x2, x3, x4, x5, x6, x7, x8, x9, x10, x11, x12, x13, x14, x15, x16, x17, x18, x19, x20, x21, x22, x23, x24, x25, x26, x27, x28, x29, x30, x31, x32, x33, x34, x35, x36, x37, x38, x39, x40, x41, x42, x43, x44, x45, x46, x47, x48, x49, x50, x51, x52, rfl⟩ := act53c5 hag.size hag.defers
              have ag0 : x0 = .pointer (some ⟨g, 0, none⟩) := hag.kept 0 (by kernel_rfl)
              have ag1 : x1 = .int .i64 n := hag.kept 1 (by kernel_rfl)
              have ag2 : x2 = undef := hag.kept 2 (by kernel_rfl)
              have ag3 : x3 = undef := hag.kept 3 (by kernel_rfl)
              have ag4 : x4 = .pointer (some ⟨rb, 0, none⟩) := hag.kept 4 (by kernel_rfl)
              have ag5 : x5 = .pointer (some ⟨xb, 0, none⟩) := hag.kept 5 (by kernel_rfl)
              have ag6 : x6 = .int .i64 k := hag.kept 6 (by kernel_rfl)
              have ag7 : x7 = .int .i64 k := hag.kept 7 (by kernel_rfl)
              have ag8 : x8 = .int .i64 j := hag.kept 8 (by kernel_rfl)
              have ag9 : x9 = .pointer (some ⟨g, 0, none⟩) := hag.kept 9 (by kernel_rfl)
              have ag10 : x10 = .int .i64 r := hag.kept 10 (by kernel_rfl)
              have ag11 : x11 = .int .i64 ht := hag.kept 11 (by kernel_rfl)
              have ag12 : x12 = .agg #[.int .i64 ht, .slice none 0 0, .slice none 0 0] := hag.kept 12 (by kernel_rfl)
              have ag13 : x13 = .pointer (some ⟨g, 0, none⟩) := hag.kept 13 (by kernel_rfl)
              have ag14 : x14 = .int .i64 r2 := hag.kept 14 (by kernel_rfl)
              have ag15 : x15 = .int .i64 k := hag.kept 15 (by kernel_rfl)
              have ag16 : x16 = .int .i64 k := hag.kept 16 (by kernel_rfl)
              have ag17 : x17 = .int .i64 k := hag.kept 17 (by kernel_rfl)
              have ag18 : x18 = .bool false := hag.kept 18 (by kernel_rfl)
              have ag19 : x19 = u19 := hag.kept 19 (by kernel_rfl)
              have ag20 : x20 = u20 := hag.kept 20 (by kernel_rfl)
              have ag21 : x21 = u21 := hag.kept 21 (by kernel_rfl)
              have ag22 : x22 = u22 := hag.kept 22 (by kernel_rfl)
              have ag23 : x23 = u23 := hag.kept 23 (by kernel_rfl)
              have ag24 : x24 = u24 := hag.kept 24 (by kernel_rfl)
              have ag25 : x25 = u25 := hag.kept 25 (by kernel_rfl)
              have ag26 : x26 = u26 := hag.kept 26 (by kernel_rfl)
              have ag27 : x27 = u27 := hag.kept 27 (by kernel_rfl)
              have ag28 : x28 = u28 := hag.kept 28 (by kernel_rfl)
              have ag52 : x52 = undef := hag.kept 52 (by kernel_rfl)
              clear hag
              subst ag0 ag1 ag2 ag3 ag4 ag5 ag6 ag7 ag8 ag9 ag10 ag11 ag12 ag13 ag14 ag15 ag16 ag17 ag18 ag19 ag20 ag21 ag22 ag23 ag24 ag25 ag26 ag27 ag28 ag52
              obtain ⟨a9, y9, h8, own3⟩ : ∃ a x : Int, ((0 ≤ a ∧ a < k) ∧ 0 ≤ x ∧ x ≤ 59) ∧ wr.ownsRow B2 106 3 x50 (p + 1) (ys ++ [Value.int .i64 a, Value.int .i64 j, Value.int .i64 x]) := hd 10 (by kernel_rfl) _ rfl
              have e7 : x51 = .pointer (some ⟨xb, 2, none⟩) := hd 11 (by kernel_rfl) _ rfl
              subst e7
              obtain ⟨A9, c9, e9, _, _⟩ := (RdS.of_own own3).form
              subst e9
              have hbx := hJ.1.1
              have hqx := hJ.1.2.1
              have hBx := hJ.1.2.2
              have c1 := (hbx.lx 2 _ rfl).1
              have f1 := (hbx.lx 2 _ rfl).2
              clear hd hJ hall
              have hb9 := hbx.store (i := 2) (u := .slice A9 (p + 1) c9) (v := u) rfl hwxb hw0 hgx hrx
              have own9 := own_set (i := 2) (u := .slice A9 (p + 1) c9) own3 (xb := xb) (by omega)
              have hq9 := own_set (i := 2) (u := .slice A9 (p + 1) c9) hqx (xb := xb) (by omega)
              have hB9 : B2 ≤ (wr.setCell ⟨xb, 2, none⟩ (.slice A9 (p + 1) c9)).heap.size := by simpa [World.setCell] using hBx
              change wpList _ _ _ [_] _ _
              go_wp2_with fail
              go_roundw
              case rel =>
                refine ⟨j + 1, .slice A9 (p + 1) c9, l2 ++ [(a9, (j : Int), y9)], by omega, by go_num, hct.out.snoc h8.1 h8.2, ?_, hq9, hB9, hb9⟩
                rw [List.length_append, List.flatMap_append, HY.out, HP.out]; exact own9
              case measure => simp [intOf]; omega
        · obtain rfl : j = n := by omega
          have c0 := (hbc.lx 0 _ rfl).1
          have c1 := (hbc.lx 1 _ rfl).1
          have c2 := (hbc.lx 2 _ rfl).1
          have d0 := hbc.lr 0 _ rfl
          have d1 := hbc.lr 1 _ rfl
          have d2 := hbc.lr 2 _ rfl
          obtain ⟨k0, f0⟩ := d0
          obtain ⟨k1, f1⟩ := d1
          obtain ⟨k2, f2⟩ := d2
          obtain ⟨Aq, cq, eq, _, _⟩ := (RdS.of_own hown).form
          obtain ⟨Au, cu, eu, _, _⟩ := (RdS.of_own hun2).form
          subst eq eu
          go_wp2_with fail
          have hch3 : Chg [rb] wr (((wr.setCell ⟨rb, 0, none⟩ (.int .i64 ht)).setCell ⟨rb, 1, none⟩ (.slice Aq k cq)).setCell ⟨rb, 2, none⟩ (.slice Au l2.length cu)) := by repeat' (first | (with_reducible exact Chg.refl _ _) | (with_reducible refine chg_set ?_ (by simp)))
          have hr2 : ∀ b : Nat, xb + 1 ≤ b → b ∉ [rb] := fun b hb => by simp; omega
          have o1 := own_chg hown hch3 (fun b hb => hr2 b (hown.lt b (by simpa using hb)).1)
          have o2 := own_chg hun2 hch3 (fun b hb => hr2 b (by have := (hun2.lt b (by simpa using hb)).1; omega))
          refine bodyPost_ret (v := .agg #[.int .i64 ht, .slice Aq k cq, .slice Au l2.length cu]) (by simp [results, Try.results76, go_sem, *]) rfl ⟨ht, .slice Aq k cq, .slice Au l2.length cu, l, l2, rfl, ⟨?_, own_mono o2 (by omega)⟩, ⟨ctl_of hct.out HL.out hm5 hval.out hhb hn, hhb.2⟩, ?_, ?_⟩
          · rw [HL.out]; exact own_mono o1 (by omega)
          · exact hbc.cur.chg hch3 (by simpa using hgr) (fun b hb => by simp at hb; omega)
          · exact ⟨hch3.os.trans hbc.chg.os, hch3.tape.trans hbc.chg.tape, hch3.output.trans hbc.chg.output, Nat.le_trans hbc.chg.size hch3.size, fun k hk hn => (hch3.block k (Nat.lt_of_lt_of_le hk hbc.chg.size) (by simp; omega)).trans (hbc.chg.block k hk hn)⟩
def DrawnControl (w : World) (e : Ending) (w' : World) : Prop :=
  ∃ (ht : Int) (v1 v2 : Value) (d1 : List Int) (d2 : List RCord), e = .returned (.agg #[.int .i64 ht, v1, v2]) ∧ RdControl w' v1 v2 d1 d2 ∧ (CtlOk 7 ht d1 d2 ∧ ht ≤ 79) ∧ Below w.heap.size w w'
set_option maxHeartbeats 1000000 in
theorem drawControl_any (A : Option Addr) (c : Nat) (bs : List Int) (w : World) (h : RdL cU8 1 w (.slice A bs.length c) bs) (hby : ∀ x ∈ bs, 0 ≤ x ∧ x ≤ 255) (hlen : bs.length ≤ 1048576) :
    Calls Try.prog 22 #[.slice A bs.length c] w (DrawnControl w) := by
  go_enter Try.func22, Try.ntmps22
  go_wp2_with fail
  have hb0 : Below w.heap.size w (w.alloc (.cells #[.int .i64 0, .slice none 0 0, .slice none 0 0] 34)) := by (repeat' (first | (with_reducible exact Below.refl _ _) | (with_reducible assumption) | (with_reducible refine Below.setCell ?_ (by first | omega | (simp; omega) | (simp; done)) _) | (with_reducible refine Below.alloc ?_ (by first | omega | (simp; omega) | (simp; done)) _) | (with_reducible refine Below.drew ?_) | (with_reducible refine below_drewN ?_ _)))
  have lr : Loc (w.alloc (.cells #[.int .i64 0, .slice none 0 0, .slice none 0 0] 34)) w.heap.size [.int .i64 0, .slice none 0 0, .slice none 0 0] := Loc.new w #[.int .i64 0, .slice none 0 0, .slice none 0 0] 34
  have hz0 : w.heap.size < (w.alloc (.cells #[.int .i64 0, .slice none 0 0, .slice none 0 0] 34)).heap.size := by simp
  generalize w.alloc (.cells #[.int .i64 0, .slice none 0 0, .slice none 0 0] 34) = V at *
  refine (l01New_any A c bs V (h.below hb0) hby hlen).mono ?_
  rintro e w1 ⟨g, rfl, hc⟩
  have hgV := hc.base
  have lr1 := lr.below hc.below
  go_wp2_with fail
  refine (l05Control_any V w1 g A c bs 7 (by omega) hc).mono ?_
  rintro e w2 ⟨ht, v1, v2, d1, d2, rfl, ⟨ho1, ho2⟩, hok, hc2, hch⟩
  obtain ⟨A1, n1, rfl, _, _⟩ := (RdS.of_own ho1).form
  obtain ⟨A2, n2, rfl, _, _⟩ := (RdS.of_own ho2).form
  have hz1 := hc.below.size
  have lr2 := lr1.chg hch (by simp; omega)
  have hb2 : Below w.heap.size w w2 := bl_trans hb0 hc2.below
  have hz2' := hb2.size
  have hz2 := hc2.below.size
  obtain ⟨k0, f0⟩ := lr2 0 _ rfl
  obtain ⟨k1, f1⟩ := lr2 1 _ rfl
  obtain ⟨k2, f2⟩ := lr2 2 _ rfl
  have Hok := Lib.hid hok
  clear hok
  go_wp2_with fail
  have hch3 : Chg [w.heap.size] w2 (((w2.setCell ⟨w.heap.size, 0, none⟩ (.int .i64 ht)).setCell ⟨w.heap.size, 1, none⟩ (.slice A1 d1.length n1)).setCell ⟨w.heap.size, 2, none⟩ (.slice A2 d2.length n2)) := by repeat' (first | (with_reducible exact Chg.refl _ _) | (with_reducible refine chg_set ?_ (by simp)))
  have hr2 : ∀ b : Nat, w1.heap.size ≤ b → b ∉ [w.heap.size] := fun b hb => by simp; omega
  have o1 := own_chg ho1 hch3 (fun b hb => hr2 b (ho1.lt b (by simpa using hb)).1)
  have o2 := own_chg ho2 hch3 (fun b hb => hr2 b (ho2.lt b (by simpa using hb)).1)
  exact bodyPost_ret (v := .agg #[.int .i64 ht, .slice A1 d1.length n1, .slice A2 d2.length n2]) (by simp [results, Try.results22, go_sem, *]) rfl ⟨ht, _, _, d1, d2, rfl, ⟨RdS.of_own o1, RdS.of_own o2⟩, Hok.out, Below.chg hb2 hch3 hz2' (by simp)⟩
end Go.Proofs.Ytkejgogheonakaa
