/- Lemmas and contracts that this claim's theorem rests on. Conditions: those that each states. -/
import Derived.BigQuiet
import Derived.Test.YtkbacoadejglkaaGreatDoorBdA1x8
namespace Go.Proofs.YtkbacoadejglkaaGreatDoor
set_option maxHeartbeats 16000000
set_option maxRecDepth 100000
open Go.RowKit
theorem zdb : (Tryz.prog.info? 9).map (fun i => (i.zero, i.size, i.bytes)) = some (some (.string ByteArray.empty), 1, 16) := by kernel_rfl
theorem zhw (v v' : Value) (l : List ByteArray) (w : World) (h : RdL cStr 1 w v l) (hq : RdL cStr 1 w v' l) :
  Calls Tryz.prog 6 #[v, v'] w fun e w' => e = .returned (.bool true) /\ Below w.heap.size w w' := by
 obtain ⟨A, c, rfl, h1, h2⟩ := h.form; obtain ⟨A', c', rfl, h1', h2'⟩ := hq.form
 go_enter Tryz.func6, Tryz.ntmps6
 go_wp2_with fail
 go_loopw [5] (fun i wr => ∃ k : Nat, k <= l.length /\ i = .int .i64 k /\ Below w.heap.size w wr) (fun i _ => l.length - (intOf i).toNat)
 case atStart => exact ⟨0, Nat.zero_le _, rfl, bL⟩
 case round =>
  obtain ⟨k, hk, rfl, hb⟩ := hrel; have hz := hb.size
  by_cases hlt : k < l.length
  ·have hr1 := h.below hb
   have hr2 := hq.below hb; obtain ⟨g, off, rfl, hg, hc⟩ := hr1.cell zey (by omega) hlt
   have k0 := hc 0 _ rfl; obtain ⟨g', off', rfl, hg', hc'⟩ := hr2.cell zey (by omega) hlt
   have k2 := hc' 0 _ rfl
   simp only [Nat.add_zero, Nat.mul_one] at k0 k2
   clear hc hc'; go_wp2_with fail
   go_quiet (fail)
   go_wp2_with fail; go_roundw
   case rel => exact ⟨k + 1, by omega, by go_num, bL⟩
   case measure => simp [intOf]; omega
  ·go_wp2_with fail
   go_ret
   exact ⟨rfl, bL⟩
def zlw (a b : Int) (c : UInt8) : Bool := decide (a <= (c.toNat : Int)) && decide ((c.toNat : Int) <= b)
def zha (s : ByteArray) (a b : Int) : Bool := s.data.toList.all (zlw a b)
theorem zqh {a b : Int} {c : UInt8} (h1 : ¬ (c.toNat : Int) < a) (h2 : ¬ b < (c.toNat : Int)) : zlw a b c = true := by simp [zlw]; omega
theorem zmr {a b : Int} {c : UInt8} (h1 : (c.toNat : Int) < a) : zlw a b c = false := by simp [zlw]; omega
theorem znc {a b : Int} {c : UInt8} (h1 : b < (c.toNat : Int)) : zlw a b c = false := by simp [zlw]; omega
theorem zcd : (Tryz.prog.info? 3).map (fun i => (i.zero, i.size, i.bytes)) = some (some (.int .i64 0), 1, 8) := by kernel_rfl
def zx6 (k : Int) : List Value := [.int .i64 k]
theorem zbx (a : Int) : ∀ y ∈ cInt a, y.oneCell' = true := by intro y hy; simp [cInt] at hy; subst hy; rfl
theorem znk (v : Value) (l : List Int) (a b : Int) (w : World) (h : RdL cInt 1 w v l) :
  Calls Tryz.prog 170 #[v, .int .i64 a, .int .i64 b] w fun e w' => e = .returned (.bool (allB a b l)) /\ w = w' := by
 obtain ⟨A, c, rfl, h1, h2⟩ := h.form
 go_enter Tryz.func170, Tryz.ntmps170
 go_wp2_with fail
 go_loop [11] (fun i => ∃ k : Nat, k <= l.length /\ i = .int .i64 k /\ Hid ((l.take k).all (fun n => inB n a b) = true)) (fun i => l.length - (intOf i).toNat)
 case atStart => exact ⟨0, Nat.zero_le _, rfl, by rfl⟩
 case round =>
  obtain ⟨k, hk, rfl, hall⟩ := hrel
  by_cases hlt : k < l.length
  ·obtain ⟨g, off, rfl, hg, hc⟩ := h.cell zat (by omega) hlt
   have k0 := hc 0 _ rfl
   simp only [Nat.add_zero, Nat.mul_one] at k0
   clear hc
   go_wp2_with (go_at_call 35; refine two (zbo _ _ _ _) (fun hc => ?_) (fun hc => ?_))
   ·go_round
    case rel => exact ⟨k + 1, by omega, by go_num, zc0 hlt hall.out hc.out⟩
    case measure => simp [intOf]; omega
   ·go_ret
    exact ⟨zal (zck hlt hc.out).symm, rfl⟩
  ·go_wp2_with fail
   go_ret
   exact ⟨zal (zc9 hlt hall.out).symm, rfl⟩
theorem zvu {l : List Int} {k : Nat} (h1 : (List.range k).all (zj0 l) = true) (h2 : zj0 l k = true) : (List.range (k + 1)).all (zj0 l) = true := by
 rw [List.range_succ, List.all_append, h1]; simp [h2]
theorem zn1 {l : List Int} {k : Nat} (h : k < l.length) (h2 : zj0 l k = false) : ascB l = false := by
 unfold ascB; rw [List.all_eq_false]; exact ⟨k, by simpa using h, by simp [h2]⟩
theorem znu {l : List Int} {k : Nat} (h : k < l.length) (h0 : 0 < k) : zj0 l k = decide (l[k - 1] < l[k]) := by
 unfold zj0; rw [show (k == 0) = false by simp; omega, Bool.false_or, List.getD_eq_getElem?_getD, List.getD_eq_getElem?_getD, List.getElem?_eq_getElem (show k - 1 < l.length by omega), List.getElem?_eq_getElem h]
 rfl
theorem zwj {l : List Int} {a b : Int} (h : ascB l = false) : zbn l a b = false := by rw [zbn, h]; rfl
theorem zv8 {l : List Int} {a b : Int} (h : ascB l = true) : zbn l a b = allB a b l := by rw [zbn, h]; rfl
theorem zev (v : Value) (l : List Int) (a b : Int) (w : World) (h : RdL cInt 1 w v l) :
  Calls Tryz.prog 147 #[v, .int .i64 a, .int .i64 b] w fun e w' => e = .returned (.bool (zbn l a b)) /\ Below w.heap.size w w' := by
 obtain ⟨A, c, rfl, h1, h2⟩ := h.form
 go_enter Tryz.func147, Tryz.ntmps147
 go_wp2_with fail
 go_loopw [10] (fun i wr => ∃ k : Nat, k <= l.length /\ i = .int .i64 k /\ Hid ((List.range k).all (zj0 l) = true) /\ Below w.heap.size w wr) (fun i _ => l.length - (intOf i).toNat)
 case atStart => exact ⟨0, Nat.zero_le _, rfl, by rfl, bL⟩
 case round =>
  obtain ⟨k, hk, rfl, hall, hb⟩ := hrel; have hz := hb.size
  by_cases hlt : k < l.length
  ·have hr := h.below hb
   obtain ⟨g, off, rfl, hg, hc⟩ := hr.cell zat (by omega) hlt
   have k0 := hc 0 _ rfl
   by_cases h0 : 0 < k
   ·obtain ⟨g', off', hAA, hg', hc'⟩ := hr.cell (k := k - 1) zat (by omega) (by omega)
    injection hAA with hAA
    injection hAA with e1 e2
    subst e1 e2; have k1 := hc' 0 _ rfl
    simp only [Nat.add_zero, Nat.mul_one] at k0 k1
    clear hc hc'; have hat := znu hlt h0; have Hat := Lib.hid hat; clear hat
    by_cases hle : l[k] <= l[k - 1]
    ·go_wp2_with fail
     go_quiet (fail)
     go_wp2_with fail; go_ret; exact ⟨zal (zwj (zn1 hlt (by rw [Hat.out]; simp; omega))).symm, bL⟩
    ·go_wp2_with fail
     go_quiet (fail)
     go_wp2_with fail; go_roundw
     case rel => exact ⟨k + 1, by omega, by go_num, zvu hall.out (by rw [Hat.out]; simp; omega), bL⟩
     case measure => simp [intOf]; omega
   ·obtain rfl : k = 0 := by omega
    simp only [Nat.add_zero, Nat.mul_one] at k0
    clear hc; go_wp2_with fail
    go_quiet (fail)
    go_wp2_with fail; go_roundw
    case rel => exact ⟨1, by omega, by rfl, by rfl, bL⟩
    case measure => simp [intOf]; omega
  ·go_wp2_with (go_at_call 170; refine (znk _ l a b _ (h.below hb)).mono ?_; rintro e w' ⟨rfl, rfl⟩)
   go_ret
   obtain rfl : k = l.length := by omega
   exact ⟨zal (zv8 hall.out).symm, bL⟩
def zdo (n : Int) (s : Bool × List Int) (x : Int) : Bool × List Int := if s.1 = false /\ n <= x then (true, s.2 ++ [n] ++ [x]) else (s.1, s.2 ++ [x])
def zmq (n : Int) (l : List Int) : Bool × List Int := l.foldl (zdo n) (false, [])
def zrn (n : Int) (s : Bool × List Int) : List Int := if s.1 = true then s.2 else s.2 ++ [n]
theorem zun (n : Int) (l : List Int) : ∀ acc, l.foldl (zdo n) (true, acc) = (true, acc ++ l) := by
 induction l with
 | nil => intro acc; simp
 | cons x xs ih => intro acc; rw [List.foldl_cons]; simp [zdo, ih]
theorem zux (n : Int) (l : List Int) : ∀ acc, zrn n (l.foldl (zdo n) (false, acc)) = acc ++ putF n l := by
 induction l with
 | nil => intro acc; simp [zrn, putF]
 | cons x xs ih =>
  intro acc; rw [List.foldl_cons]
  by_cases h : n <= x
  ·rw [show zdo n (false, acc) x = (true, acc ++ [n] ++ [x]) by simp [zdo, h], zun]
   simp [zrn, putF, h]
  ·rw [show zdo n (false, acc) x = (false, acc ++ [x]) by simp [zdo, h], ih]
   simp [putF, h]
theorem zt0 (n : Int) (l : List Int) : zrn n (zmq n l) = putF n l := by have := zux n l []; simpa [zmq] using this
theorem zl6 (n : Int) (l : List Int) {k : Nat} (h : k < l.length) : zmq n (l.take (k + 1)) = zdo n (zmq n (l.take k)) l[k] := zbl _ _ l h
theorem zu5 (n : Int) (l : List Int) (k : Nat) (hk : k <= l.length) : (zmq n (l.take k)).2.length <= k + (if (zmq n (l.take k)).1 = true then 1 else 0) := by
 induction k with
 | zero => simp [zmq]
 | succ k ih =>
  rw [zl6 n l (by omega)]
  have := ih (by omega)
  generalize zmq n (l.take k) = s at *
  obtain ⟨b, acc⟩ := s; unfold zdo
  split
  ·rename_i h; simp at h this ⊢; simp [h.1] at this; omega
  ·simp at this ⊢; omega
theorem zpj (v : Value) (l : List Int) (n : Int) (w : World) (h : RdL cInt 1 w v l) (hl : l.length <= 16777216) :
  Calls Tryz.prog 149 #[v, .int .i64 n] w fun e w' => ∃ v', e = .returned v' /\ w'.ownsRow w.heap.size 3 1 v' (putF n l).length ((putF n l).flatMap cInt) /\ Below w.heap.size w w' := by
 obtain ⟨A, c, rfl, h1, h2⟩ := h.form; obtain ⟨i0, hi0, hz0, hz1, hz2⟩ := info_parts zcd
 go_enter Tryz.func149, Tryz.ntmps149
 go_wp2_with fail
 go_loopw [5, 6, 12] (fun q d i wr => ∃ (k : Nat) (b : Bool) (acc : List Int), k <= l.length /\ i = .int .i64 k /\ d = .bool b /\ Hid (zmq n (l.take k) = (b, acc)) /\ wr.ownsRow w.heap.size 3 1 q acc.length (acc.flatMap cInt) /\ Below w.heap.size w wr) (fun _ _ i _ => l.length - (intOf i).toNat)
 case atStart => exact ⟨0, false, [], Nat.zero_le _, rfl, rfl, by rfl, World.ownsRow_made (size := 1) (e := 3) w #[] 0 (Nat.le_refl _) (by simp [maxLen]) rfl, bL⟩
 case round =>
  obtain ⟨k, b, acc, hk, rfl, rfl, hst, hown, hb⟩ := hrel; have hz := hb.size; have hal : acc.length <= k + 1 := by have := zu5 n l k hk; rw [hst.out] at this; simp at this; split at this <;> omega
  by_cases hlt : k < l.length
  ·have hr := h.below hb
   obtain ⟨g, off, rfl, hg, hc⟩ := hr.cell zat (by omega) hlt
   have k0 := hc 0 _ rfl
   simp only [Nat.add_zero, Nat.mul_one] at k0
   clear hc; have hsu := zl6 n l hlt; rw [hst.out] at hsu; have Hsu := Lib.hid hsu; clear hsu
   by_cases hin : b = false /\ n <= l[k]
   ·obtain ⟨rfl, hin⟩ := hin
    go_wp2_with (first
     | (at_builtin; refine zaf _ rfl (.tmp 23) (.tmp 25) _ rfl w.heap.size 3 i0 _ 1 8 Tryz.underlying37 hi0 hz0 hz1 hz2 rfl (by omega) _ acc.length (acc.flatMap cInt) rfl (hown.alloc _) _ 1 [.int .i64 n] rfl (zap wr #[.int .i64 n] _ 1 1 rfl (by simp [maxLen])) (by simp [Value.oneCell']) (by simp [maxLen]; omega) (by omega) (by simp; omega) ?_; intro v2 w2 hown2 hgr2; have hb2 : Below w.heap.size (wr.alloc (Obj.cells #[.int .i64 n] 3)) w2 := zag (hown.alloc _) hgr2 (by simp; omega); clear hgr2; have hz2' := hb2.size; simp at hz2')
     | (at_builtin; refine zaf _ rfl (.tmp 27) (.tmp 29) _ rfl w.heap.size 3 i0 _ 1 8 Tryz.underlying37 hi0 hz0 hz1 hz2 rfl (by omega) _ (acc.length + 1) (acc.flatMap cInt ++ [.int .i64 n]) rfl (hown2.alloc _) _ 1 [.int .i64 l[k]] rfl (zap w2 #[.int .i64 l[k]] _ 1 1 rfl (by simp [maxLen])) (by simp [Value.oneCell']) (by simp [maxLen]; omega) (by omega) (by simp; omega) ?_; intro v3 w3 hown3 hgr3))
    have hb3 : Below w.heap.size (w2.alloc (Obj.cells #[.int .i64 l[k]] 3)) w3 := zag (hown2.alloc _) hgr3 (by simp; omega)
    clear hgr3; go_wp2_with fail; go_roundw
    case rel =>
     refine ⟨k + 1, true, acc ++ [n] ++ [l[k]], by omega, by go_num, rfl, ?_, ?_, ((hb.alloc (by omega) _).trans hb2 |>.alloc (by omega) _).trans hb3⟩
     ·show _ = _
      rw [Hsu.out]; simp [zdo, hin]
     ·rw [List.length_append, List.length_append, List.flatMap_append, List.flatMap_append]
      exact hown3
    case measure => simp [intOf]; omega
   ·have hps : zdo n (b, acc) l[k] = (b, acc ++ [l[k]]) := by unfold zdo; rw [if_neg hin]
    have Hps := Lib.hid hps; clear hps; have hgd : b = true ∨ (b = false /\ ¬ n <= l[k]) := by cases b <;> simp_all
    clear hin
    rcases hgd with rfl | ⟨rfl, hni⟩
    all_goals
     go_wp2_with (at_builtin; refine zaf _ rfl (.tmp 27) (.tmp 29) _ rfl w.heap.size 3 i0 _ 1 8 Tryz.underlying37 hi0 hz0 hz1 hz2 rfl (by omega) _ acc.length (acc.flatMap cInt) rfl (hown.alloc _) _ 1 [.int .i64 l[k]] rfl (zap wr #[.int .i64 l[k]] _ 1 1 rfl (by simp [maxLen])) (by simp [Value.oneCell']) (by simp [maxLen]; omega) (by omega) (by simp; omega) ?_; intro v3 w3 hown3 hgr3)
     have hb3 : Below w.heap.size (wr.alloc (Obj.cells #[.int .i64 l[k]] 3)) w3 := zag (hown.alloc _) hgr3 (by simp; omega)
     clear hgr3; go_wp2_with fail; go_roundw
     case rel =>
      refine ⟨k + 1, _, acc ++ [l[k]], by omega, by go_num, rfl, ?_, ?_, (hb.alloc (by omega) _).trans hb3⟩
      ·show _ = _
       rw [Hsu.out, Hps.out]
      ·rw [List.length_append, List.flatMap_append]
       exact hown3
     case measure => simp [intOf]; omega
  ·obtain rfl : k = l.length := by omega
   have hfin := zt0 n l; have hst' := hst.out; rw [List.take_length] at hst'; rw [hst'] at hfin; have Hfin := Lib.hid hfin; clear hfin hst'
   cases b
   ·go_wp2_with (at_builtin; refine zaf _ rfl (.tmp 34) (.tmp 36) _ rfl w.heap.size 3 i0 _ 1 8 Tryz.underlying37 hi0 hz0 hz1 hz2 rfl (by omega) _ acc.length (acc.flatMap cInt) rfl (hown.alloc _) _ 1 [.int .i64 n] rfl (zap wr #[.int .i64 n] _ 1 1 rfl (by simp [maxLen])) (by simp [Value.oneCell']) (by simp [maxLen]; omega) (by omega) (by simp; omega) ?_; intro v3 w3 hown3 hgr3)
    have hb3 : Below w.heap.size (wr.alloc (Obj.cells #[.int .i64 n] 3)) w3 := zag (hown.alloc _) hgr3 (by simp; omega)
    clear hgr3; go_wp2_with fail; go_ret; refine ⟨_, rfl, ?_, (hb.alloc (by omega) _).trans hb3⟩
    rw [<- Hfin.out]
    show _root_.Go.World.ownsRow _ _ _ _ _ (acc ++ [n]).length ((acc ++ [n]).flatMap cInt)
    rw [List.length_append, List.flatMap_append]; exact hown3
   ·go_wp2_with fail
    go_ret
    refine ⟨_, rfl, ?_, hb⟩; rw [<- Hfin.out]; exact hown
theorem zsw (l : List Int) {k : Nat} (h : k < l.length) : zg4 (l.take (k + 1)) = putF l[k] (zg4 (l.take k)) := zbl _ _ l h
theorem zsi (v : Value) (l : List Int) (w : World) (h : RdL cInt 1 w v l) (hl : l.length <= 16777216) :
  Calls Tryz.prog 185 #[v] w fun e w' => ∃ v', e = .returned v' /\ w'.ownsRow w.heap.size 3 1 v' (zg4 l).length ((zg4 l).flatMap cInt) /\ Below w.heap.size w w' := by
 obtain ⟨A, c, rfl, h1, h2⟩ := h.form
 go_enter Tryz.func185, Tryz.ntmps185
 go_wp2_with fail
 go_loopw [3, 9] (fun q i wr => ∃ k : Nat, k <= l.length /\ i = .int .i64 k /\ wr.ownsRow w.heap.size 3 1 q (zg4 (l.take k)).length ((zg4 (l.take k)).flatMap cInt) /\ Below w.heap.size w wr) (fun _ i _ => l.length - (intOf i).toNat)
 case atStart => exact ⟨0, Nat.zero_le _, rfl, World.ownsRow_made (size := 1) (e := 3) w #[] 0 (Nat.le_refl _) (by simp [maxLen]) rfl, bL⟩
 case round =>
  obtain ⟨k, hk, rfl, hown, hb⟩ := hrel; have hz := hb.size
  by_cases hlt : k < l.length
  ·have hr := h.below hb
   obtain ⟨g, off, rfl, hg, hc⟩ := hr.cell zat (by omega) hlt
   have k0 := hc 0 _ rfl
   simp only [Nat.add_zero, Nat.mul_one] at k0
   clear hc; have hsu := zsw l hlt; have Hsu := Lib.hid hsu; clear hsu; have hsl : (zg4 (l.take k)).length <= 16777216 := by rw [zta]; simp; omega
   go_wp2_with fail; refine (zpj _ (zg4 (l.take k)) l[k] _ (RdS.of_own hown) hsl).mono ?_; rintro e w' ⟨v', rfl, hown', hb'⟩; go_wp2_with fail; go_roundw
   case rel => exact ⟨k + 1, by omega, by go_num, by rw [Hsu.out]; exact zaj hown' hz, bL⟩
   case measure => simp [intOf]; omega
  ·go_wp2_with fail
   go_ret
   rw [List.take_of_length_le (by omega)] at hown
   exact ⟨_, rfl, hown, bL⟩
theorem zwe {l : List Int} (h : inB l.length 1 7 = false) : zd6 l = false := by rw [zd6, h]; rfl
theorem zv4 {l : List Int} (h : inB l.length 1 7 = true) : zd6 l = zbn (zg4 l) 0 (l.length - 1) := by rw [zd6, h]; rfl
theorem zkr (v : Value) (l : List Int) (w : World) (h : RdL cInt 1 w v l) :
  Calls Tryz.prog 182 #[v] w fun e w' => e = .returned (.bool (zd6 l)) /\ Below w.heap.size w w' := by
 have h0 := h; obtain ⟨A, c, rfl, h1, h2⟩ := h.form
 go_enter Tryz.func182, Tryz.ntmps182
 go_wp2_with (go_at_call 35; refine two (zbo _ _ _ _) (fun hc => ?_) (fun hc => ?_))
 ·have hq := zbg.1 hc.out
  refine (zsi _ l _ h0 (by omega)).mono ?_
  rintro e w' ⟨v', rfl, hown, hb⟩; go_wp2_with fail; refine (zev _ (zg4 l) _ _ _ (RdS.of_own hown)).mono ?_; rintro e w'' ⟨rfl, hb'⟩; go_wp2_with fail; go_ret; exact ⟨zal (zv4 hc.out).symm, zab hb hb'⟩
 ·go_ret
  exact ⟨zal (zwe hc.out).symm, bL⟩
def zj2 (l : List Int) (k : Nat) : Bool := inB (l.getD k 0) 0 (l.length - 1) && (List.range k).all (fun i => !(l.getD i 0 == l.getD k 0))
theorem zys (l : List Int) (h : (List.range l.length).all (zj2 l) = true) (hl : inB l.length 1 7 = true) : zd6 l = true := by
 rw [zfb]; rw [List.all_eq_true] at h; have hg : ∀ k (hk : k < l.length), l.getD k 0 = l[k] := fun k hk => by rw [List.getD_eq_getElem?_getD, List.getElem?_eq_getElem hk]; rfl
 have h' : ∀ k (hk : k < l.length), (0 <= l[k] /\ l[k] <= (l.length : Int) - 1) /\ ∀ i (hi : i < k), l[i]'(by omega) ≠ l[k] := by
  intro k hk; have := h k (by simpa using hk)
  unfold zj2 at this; rw [Bool.and_eq_true, hg k hk, zbg, List.all_eq_true] at this; refine ⟨this.1, fun i hi => ?_⟩
  have := this.2 i (by simpa using hi)
  rw [hg i (by omega)] at this
  simpa using this
 refine ⟨by have := zbg.1 hl; omega, ?_, fun n hn => ?_⟩
 ·rw [List.nodup_iff_pairwise_ne, List.pairwise_iff_getElem]
  intro i j hi hj hij; exact (h' j hj).2 i hij
 ·obtain ⟨k, hk, rfl⟩ := List.getElem_of_mem hn
  exact (h' k hk).1
theorem zzu (l : List Int) {k : Nat} (hk : k < l.length) (h : zj2 l k = false) : zd6 l = false := by
 rw [<- Bool.not_eq_true, zfb]; rintro ⟨_, hn, hb⟩; have hg : ∀ k (hk : k < l.length), l.getD k 0 = l[k] := fun k hk => by rw [List.getD_eq_getElem?_getD, List.getElem?_eq_getElem hk]; rfl
 have : zj2 l k = true := by
  unfold zj2; rw [Bool.and_eq_true, hg k hk]; refine ⟨zbg.2 (hb _ (List.getElem_mem hk)), ?_⟩; rw [List.all_eq_true]; intro i hi; have hik : i < k := by simpa using hi
  rw [hg i (by omega)]
  have := List.pairwise_iff_getElem.1 (List.nodup_iff_pairwise_ne.1 hn) i k (by omega) hk hik
  simpa using this
 rw [this] at h
 cases h
theorem zz5 {l : List Int} (h : inB l.length 1 7 = false) : zd6 l = false := by rw [zd6, h]; rfl
theorem zes (l : List Int) (k : Nat) (hk : k < l.length) : l.getD k 0 = l[k] := by rw [List.getD_eq_getElem?_getD, List.getElem?_eq_getElem hk]; rfl
theorem zx4 {l : List Int} {k : Nat} (h1 : inB (l.getD k 0) 0 (l.length - 1) = true) (h2 : (List.range k).all (fun i => !(l.getD i 0 == l.getD k 0)) = true) : zj2 l k = true := by unfold zj2; rw [h1, h2]; rfl
theorem zwo {l : List Int} {k : Nat} (h1 : inB (l.getD k 0) 0 (l.length - 1) = false) : zj2 l k = false := by unfold zj2; rw [h1]; rfl
theorem zwf {l : List Int} {k i : Nat} (hi : i < k) (h1 : l.getD i 0 = l.getD k 0) : zj2 l k = false := by
 unfold zj2
 rw [show (List.range k).all (fun i => !(l.getD i 0 == l.getD k 0)) = false from by
  rw [List.all_eq_false]; exact ⟨i, by simpa using hi, by rw [h1, beq_self_eq_true]; decide⟩, Bool.and_false]
theorem zg8 {p : Nat -> Bool} {k : Nat} (h1 : (List.range k).all p = true) (h2 : p k = true) : (List.range (k + 1)).all p = true := by
 rw [List.range_succ, List.all_append, h1]; simp [h2]
def zeg (w w' : World) : Prop := ∃ d, w' = w.drewN d
theorem zeg.refl (w : World) : zeg w w := ⟨0, rfl⟩
theorem zeg.drewN {w w' : World} (h : zeg w w') (n : Nat) : zeg w (w'.drewN n) := by obtain ⟨d, rfl⟩ := h; exact ⟨d + n, by simp⟩
theorem zeg.below {w w' : World} (h : zeg w w') : Below w.heap.size w w' := by obtain ⟨d, rfl⟩ := h; exact below_drewN (Below.refl _ _) d
theorem zng (v : Value) (l : List Int) (w : World) (h : RdL cInt 1 w v l) :
  Calls Tryz.prog 101 #[v] w fun e w' => e = .returned (.bool (zd6 l)) /\ zeg w w' := by
 obtain ⟨A, c, rfl, h1, h2⟩ := h.form
 go_enter Tryz.func101, Tryz.ntmps101
 go_wp2_with fail
 go_loopw [3, 4] (fun i _ wr => ∃ k : Nat, k <= l.length /\ i = .int .i64 k /\ Hid ((List.range k).all (zj2 l) = true) /\ zeg w wr) (fun i _ _ => l.length - (intOf i).toNat)
 case atStart => exact ⟨0, Nat.zero_le _, rfl, by rfl, zeg.refl w⟩
 case round =>
  obtain ⟨k, hk, rfl, hall, hd⟩ := hrel; have hb := hd.below
  by_cases hlt : k < l.length
  ·have hr := h.below hb
   obtain ⟨g, off, rfl, hg, hc⟩ := hr.cell zat (by omega) hlt
   have k0 := hc 0 _ rfl
   simp only [Nat.add_zero, Nat.mul_one] at k0
   clear hc; have Hgk := Lib.hid (zes l k hlt)
   go_wp2_with (go_at_call 23; refine two (zbv _ _ _ _) (fun hc => ?_) (fun hc => ?_))
   ·obtain ⟨wo, rfl⟩ : ∃ wo : World, wo = wr := ⟨_, rfl⟩
    go_loopw [4] (fun i wi => ∃ j : Nat, j <= k /\ i = .int .i64 j /\ Hid ((List.range j).all (fun i => !(l.getD i 0 == l.getD k 0)) = true) /\ zeg w wi) (fun i _ => k - (intOf i).toNat)
    case atStart => exact ⟨0, Nat.zero_le _, rfl, by rfl, hd⟩
    case round =>
     obtain ⟨j, hj, rfl, hin, hdi⟩ := hrel; have hbi := hdi.below
     by_cases hltj : j < k
     ·have hri := h.below hbi
      obtain ⟨g1, off1, hA1, hg1, hc1⟩ := hri.cell (k := j) zat (by omega) (by omega)
      injection hA1 with hA1
      injection hA1 with e1 e2
      subst e1 e2; obtain ⟨g2, off2, hA2, hg2, hc2⟩ := hri.cell (k := k) zat (by omega) hlt
      injection hA2 with hA2
      injection hA2 with e1 e2
      subst e1 e2; have k1 := hc1 0 _ rfl; have k2 := hc2 0 _ rfl
      simp only [Nat.add_zero, Nat.mul_one] at k1 k2
      clear hc1 hc2 k0; have Hgj := Lib.hid (zes l j (by omega))
      by_cases he : l[j] = l[k]
      ·have he' : (l[j] == l[k]) = true := by rw [beq_iff_eq]; exact he
       clear he; go_wp2_with fail
       go_quiet (fail)
       go_wp2_with fail; go_ret; exact ⟨zal (zzu l hlt (zwf hltj (by rw [Hgj.out, Hgk.out]; exact beq_iff_eq.1 he'))).symm, by first | exact hdi.drewN _ | exact hdi | exact hd⟩
      ·have he' : (l[j] == l[k]) = false := by rw [beq_eq_false_iff_ne]; exact he
       clear he; go_wp2_with fail
       go_quiet (fail)
       go_wp2_with fail; go_roundw
       case rel => exact ⟨j + 1, by omega, by go_num, zg8 hin.out (by rw [Hgj.out, Hgk.out, he']; rfl), by first | exact hdi.drewN _ | exact hdi | exact hd⟩
       case measure => simp [intOf]; omega
     ·obtain rfl : j = k := by omega
      go_wp2_with fail; go_roundw
      case rel => exact ⟨j + 1, by omega, by go_num, zg8 hall.out (zx4 (by rw [Hgk.out]; exact hc.out) hin.out), by first | exact hdi.drewN _ | exact hdi | exact hd⟩
      case measure => simp [intOf]; omega
   ·go_ret
    exact ⟨zal (zzu l hlt (zwo (by rw [Hgk.out]; exact hc.out))).symm, by first | exact hdi.drewN _ | exact hdi | exact hd⟩
  ·obtain rfl : k = l.length := by omega
   go_wp2_with (go_at_call 23; refine two (zbv _ _ _ _) (fun hc => ?_) (fun hc => ?_))
   ·go_ret
    exact ⟨zal (zys l hall.out hc.out).symm, by first | exact hdi.drewN _ | exact hdi | exact hd⟩
   ·go_ret
    exact ⟨zal (zz5 hc.out).symm, by first | exact hdi.drewN _ | exact hdi | exact hd⟩
theorem zf6 (v : Value) (l : List Int) (w : World) (h : RdL cInt 1 w v l) :
  Calls Tryz.prog 101 #[v] w fun e w' => e = .returned (.bool (zd6 l)) /\ Below w.heap.size w w' :=
 (zng v l w h).mono fun _ _ ⟨he, hd⟩ => ⟨he, hd.below⟩
theorem zgw (l : List Int) : l.flatMap cInt = l.map (fun n => Value.int .i64 n) := by
 induction l with
 | nil => rfl
 | cons a l ih => rw [List.flatMap_cons, ih]; rfl
theorem zy4 (l : List Int) (k : Nat) (h : k < l.length) : (l.flatMap cInt)[k]? = some (.int .i64 l[k]) := by
 rw [zgw, List.getElem?_map, List.getElem?_eq_getElem h]; rfl
theorem zyw (l : List Int) (k : Nat) (x : Int) : (l.flatMap cInt).set k (.int .i64 x) = (l.set k x).flatMap cInt := by
 rw [zgw, zgw, List.map_set]
theorem zm2 (n : Nat) : (madeCells (Value.int .i64 0).cells n).toList = (List.replicate n (0 : Int)).flatMap cInt := by
 rw [zgw]
 apply List.ext_getElem
 ·simp [madeCells]
 ·intro i h1 h2
  simp [madeCells, Value.cells, Nat.mod_one]
theorem zca {w : World} {B g c n : Nat} {l : List Int} (h : w.ownsRow B 3 1 (.slice (some ⟨g, 0, none⟩) n c) n (l.flatMap cInt)) (k : Nat) (x : Int) :
  (w.setCell ⟨g, k, none⟩ (.int .i64 x)).ownsRow B 3 1 (.slice (some ⟨g, 0, none⟩) n c) n ((l.set k x).flatMap cInt) := by
 have := (h.stored k (.int .i64 x)).1
 rwa [zyw] at this
theorem zyi {w : World} {B n : Nat} {e : TypeId} {v : Value} {l : List Int} (h : w.ownsRow B e 1 v n (l.flatMap cInt)) : l.length = n := by
 have := h.1; rw [zgw, List.length_map] at this
 omega
theorem zb9 {w : World} {B g c n : Nat} {l : List Int} (h : w.ownsRow B 3 1 (.slice (some ⟨g, 0, none⟩) n c) n (l.flatMap cInt)) {k : Nat} (hk : k < l.length) : w.cell? ⟨g, k, none⟩ = some (.int .i64 l[k]) :=
 (h.cellAt k (by have := h.1; have := zyi h; omega)).trans (zy4 l k hk)
def zgu (w : World) (x0 : Value) (d0 : List Int) : Prop := RdL cInt 1 w x0 d0
def zer (w : World) (S : List Nat) (x0 : Value) (d0 : List Int) : Prop := ∃ S0, S = S0 /\ OwL 3 cInt 1 w (S0) x0 d0
def zgr (w : World) (S : List Nat) (x0 : Value) (d0 : List Int) (m : Int) : Prop := ∃ S0, S = S0 /\ MkL 3 zx6 1 w (S0) x0 d0.length m
section
variable {w w' : World} {S T : List Nat} {x0 : Value} {d0 : List Int} {m : Int}
theorem zgu.below (h : zgu w x0 d0) (hb : Below w.heap.size w w') : zgu w' x0 d0 := by
 have h0 : RdL cInt 1 w x0 d0 := h; exact h0.below hb
theorem zgu.forms (h : zgu w x0 d0) : (∃ A c, x0 = .slice A d0.length c) := by
 have h0 : RdL cInt 1 w x0 d0 := h; have f0 : (∃ A c, x0 = .slice A d0.length c) := by obtain ⟨A, c, e, _⟩ := h0.form; exact ⟨A, c, e⟩
 exact f0
theorem zer.rd (h : zer w S x0 d0) : zgu w x0 d0 := by
 obtain ⟨S0, _, h0⟩ := h; exact h0.rd
theorem zer.below (h : zer w S x0 d0) (hb : Below w.heap.size w w') : zer w' S x0 d0 := by
 obtain ⟨S0, e, h0⟩ := h; exact ⟨S0, e, h0.below hb⟩
theorem zer.chg (h : zer w S x0 d0) (hc : Chg T w w') (hn : ∀ b ∈ S, b ∉ T) : zer w' S x0 d0 := by
 obtain ⟨S0, e, h0⟩ := h; exact ⟨S0, e, h0.chg hc (fun b hb => hn b (by rw [e]; first | exact hb | exact List.mem_append_left _ hb | exact List.mem_append_right _ hb | exact List.mem_append_left _ (List.mem_append_left _ hb) | exact List.mem_append_left _ (List.mem_append_right _ hb) | exact List.mem_append_right _ (List.mem_append_left _ hb) | exact List.mem_append_right _ (List.mem_append_right _ hb)))⟩
theorem zgr.below (h : zgr w S x0 d0 m) (hb : Below w.heap.size w w') : zgr w' S x0 d0 m := by
 obtain ⟨S0, e, h0⟩ := h; exact ⟨S0, e, h0.below hb⟩
theorem zgr.chg (h : zgr w S x0 d0 m) (hc : Chg T w w') (hn : ∀ b ∈ S, b ∉ T) : zgr w' S x0 d0 m := by
 obtain ⟨S0, e, h0⟩ := h; exact ⟨S0, e, h0.chg hc (fun b hb => hn b (by rw [e]; first | exact hb | exact List.mem_append_left _ hb | exact List.mem_append_right _ hb | exact List.mem_append_left _ (List.mem_append_left _ hb) | exact List.mem_append_left _ (List.mem_append_right _ hb) | exact List.mem_append_right _ (List.mem_append_left _ hb) | exact List.mem_append_right _ (List.mem_append_right _ hb)))⟩
end
end Go.Proofs.YtkbacoadejglkaaGreatDoor
