/- Lemmas and contracts that this claim's theorem rests on. Conditions: those that each states. -/
import Derived.IntWalk
import Derived.Test.YtkbacoadejglkaaGreatDoorV1
namespace Go.Proofs.YtkbacoadejglkaaGreatDoor
set_option maxHeartbeats 16000000
set_option maxRecDepth 100000
open Go.RowKit
theorem zgq {P : Program} {f : FuncId} {args : Array Value} {w : World} {n : Nat} {v : Value}
  (h : Calls P f args (w.drewN n) fun e w' => e = .returned v /\ w.drewN n = w') : Calls P f args (w.drewN n) fun e w'' => e = .returned v /\ ∃ m, w'' = w.drewN m :=
 h.mono fun _ _ ⟨he, hm⟩ => ⟨he, n, hm.symm⟩
def zo6 (n : Int) (c : zad) : Bool := inB c.1 0 (n - 2)
def zax (n : Int) (l : List zad) : Bool := (inB n 1 7 && decide (l.length <= 40)) && l.all (zo6 n)
theorem zmk {n : Int} {l : List zad} (h : inB n 1 7 = false) : zax n l = false := by rw [zax, h]; rfl
theorem zl7 {n : Int} {l : List zad} (h : 40 < l.length) : zax n l = false := by rw [zax, show decide (l.length <= 40) = false by simp; omega, Bool.and_false]; rfl
theorem zmj {n : Int} {l : List zad} (h : l.all (zo6 n) = false) : zax n l = false := by rw [zax, h, Bool.and_false]
theorem zkq {n : Int} {l : List zad} (h1 : inB n 1 7 = true) (h2 : ¬ 40 < l.length) (h3 : l.all (zo6 n) = true) : zax n l = true := by
 rw [zax, h1, h3, show decide (l.length <= 40) = true by simp; omega]; rfl
theorem za2 {n : Int} {l : List zad} (h : zax n l = true) : (1 <= n /\ n <= 7) /\ l.length <= 40 /\ ∀ c ∈ l, 0 <= c.1 /\ c.1 <= n - 2 := by
 rw [zax, Bool.and_eq_true, Bool.and_eq_true, zbg, decide_eq_true_iff] at h; exact ⟨h.1.1, h.1.2, fun c hc => zbg.1 (List.all_eq_true.1 h.2 c hc)⟩
theorem zb6 (n : Int) (v : Value) (l : List zad) (w : World) (h : RdL zah 2 w v l) :
  Calls Tryz.prog 84 #[.int .i64 n, v] w fun e w' => e = .returned (.bool (zax n l)) /\ Below w.heap.size w w' := by
 obtain ⟨A, c, rfl, h1, h2⟩ := h.form
 by_cases hlen : 40 < l.length
 ·go_enter Tryz.func84, Tryz.ntmps84
  go_wp2_with (go_at_call 35; refine two (zbo _ _ _ _) (fun hc => ?_) (fun hc => ?_))
  all_goals
   go_ret
   exact ⟨zal (zl7 hlen).symm, bL⟩
 ·go_enter Tryz.func84, Tryz.ntmps84
  go_wp2_with (go_at_call 35; refine two (zbo _ _ _ _) (fun hc => ?_) (fun hc => ?_))
  ·have hm := zbg.1 hc.out
   go_loopw [17] (fun i wr => ∃ k : Nat, k <= l.length /\ i = .int .i64 k /\ Hid ((l.take k).all (zo6 n) = true) /\ Below w.heap.size w wr) (fun i _ => l.length - (intOf i).toNat)
   case atStart => exact ⟨0, Nat.zero_le _, rfl, by rfl, Below.refl _ _⟩
   case round =>
    obtain ⟨k, hk, rfl, hall, hb⟩ := hrel; have hz := hb.size
    by_cases hlt : k < l.length
    ·obtain ⟨g, off, rfl, hg, hc'⟩ := (h.below hb).cell zby (by omega) hlt
     have k0 := hc' 0 _ rfl; have k1 := hc' 1 _ rfl
     simp only [Nat.add_zero] at k0 k1
     clear hc'
     go_wp2_with (go_at_call 35; refine two (zbo _ _ _ _) (fun hq => ?_) (fun hq => ?_))
     ·go_roundw
      case rel => exact ⟨k + 1, by omega, by go_num, zc0 hlt hall.out hq.out, bL⟩
      case measure => simp [intOf]; omega
     ·go_ret
      exact ⟨zal (zmj (zck hlt hq.out)).symm, bL⟩
    ·go_wp2_with fail
     go_ret
     exact ⟨zal (zkq hc.out hlen (zc9 hlt hall.out)).symm, hb⟩
  ·go_ret
   exact ⟨zal (zmk hc.out).symm, bL⟩
theorem zbs (n : Int) (v : Value) (l : List zad) (w : World) (h : RdL zah 2 w v l) :
  Calls Tryz.prog 59 #[.int .i64 n, v] w fun e w' => e = .returned (.bool (zax n l)) /\ Below w.heap.size w w' := by
 obtain ⟨A, c, rfl, h1, h2⟩ := h.form
 by_cases hlen : 40 < l.length
 ·go_enter Tryz.func59, Tryz.ntmps59
  go_wp2_with (go_at_call 23; refine two (zbv _ _ _ _) (fun hc => ?_) (fun hc => ?_))
  all_goals
   go_ret
   exact ⟨zal (zl7 hlen).symm, bL⟩
 ·go_enter Tryz.func59, Tryz.ntmps59
  go_wp2_with (go_at_call 23; refine two (zbv _ _ _ _) (fun hc => ?_) (fun hc => ?_))
  ·have hm := zbg.1 hc.out
   go_loop [5] (fun i => ∃ k : Nat, k <= l.length /\ i = .int .i64 k /\ Hid ((l.take k).all (zo6 n) = true)) (fun i => l.length - (intOf i).toNat)
   case atStart => exact ⟨0, Nat.zero_le _, rfl, by rfl⟩
   case round =>
    obtain ⟨k, hk, rfl, hall⟩ := hrel
    by_cases hlt : k < l.length
    ·obtain ⟨g, off, rfl, hg, hc'⟩ := h.cell zby (by omega) hlt
     have k0 := hc' 0 _ rfl
     simp only [Nat.add_zero] at k0
     clear hc'
     go_wp2_with (go_at_call 23; refine two (zbv _ _ _ _) (fun hq => ?_) (fun hq => ?_))
     ·go_round
      case rel => exact ⟨k + 1, by omega, by go_num, zc0 hlt hall.out hq.out⟩
      case measure => simp [intOf]; omega
     ·go_ret
      exact ⟨zal (zmj (zck hlt hq.out)).symm, bL⟩
    ·go_wp2_with fail
     go_ret
     exact ⟨zal (zkq hc.out hlen (zc9 hlt hall.out)).symm, bL⟩
  ·go_ret
   exact ⟨zal (zmk hc.out).symm, bL⟩
/- players -/
def zc1 (p : RPl) : Bool := zbn p.1 0 6 && inB p.2 0 2
def zbt (l : List RPl) : Bool := l.all zc1 && inB l.length 1 6
theorem zo0 {p : RPl} (h1 : zbn p.1 0 6 = true) (h2 : inB p.2 0 2 = true) : zc1 p = true := by rw [zc1, h1, h2]; rfl
theorem zmf {p : RPl} (h : zbn p.1 0 6 = false) : zc1 p = false := by rw [zc1, h]; rfl
theorem zma {p : RPl} (h : inB p.2 0 2 = false) : zc1 p = false := by rw [zc1, h, Bool.and_false]
theorem zhv {l : List RPl} (h : l.all zc1 = false) : zbt l = false := by rw [zbt, h]; rfl
theorem zo9 {l : List RPl} (h : l.all zc1 = true) : zbt l = inB l.length 1 6 := by rw [zbt, h]; rfl
theorem zdn (v : Value) (l : List RPl) (w : World) (h : zel w v l) :
  Calls Tryz.prog 113 #[v] w fun e w' => e = .returned (.bool (zbt l)) /\ Below w.heap.size w w' := by
 obtain ⟨A, c, rfl, h1, h2⟩ := h.form
 go_enter Tryz.func113, Tryz.ntmps113
 go_wp2_with fail
 go_loopw [7] (fun i wr => ∃ k : Nat, k <= l.length /\ i = .int .i64 k /\ Hid ((l.take k).all zc1 = true) /\ Below w.heap.size w wr) (fun i _ => l.length - (intOf i).toNat)
 case atStart => exact ⟨0, Nat.zero_le _, rfl, by rfl, Below.refl _ _⟩
 case round =>
  obtain ⟨k, hk, rfl, hall, hb⟩ := hrel; have hz := hb.size
  by_cases hlt : k < l.length
  ·obtain ⟨g, off, u, rfl, hg, k0, k1, hru⟩ := (h.below hb).cell hlt
   obtain ⟨A1, c1, rfl, _, _⟩ := hru.form; go_wp2_with fail; refine twoB (zev _ l[k].1 0 6 _ (hru.below (bL))) (fun w' hs hb' => ?_) (fun w' hs hb' => ?_)
   ·have j1 := za5 (b := wr.heap.size) (o := 1) (v := .int .i64 l[k].2) hb' (by simp [go_sem])
    have hz' := hb'.size
    simp at hz'
    go_wp2_with fail; refine two (zbo _ _ _ _) (fun hq => ?_) (fun hq => ?_)
    ·go_wp2_with fail
     go_roundw
     case rel => exact ⟨k + 1, by omega, by go_num, zc0 hlt hall.out (zo0 hs.out hq.out), zab hb (zbe hb')⟩
     case measure => simp [intOf]; omega
    ·go_wp2_with fail
     go_ret
     exact ⟨zal (zhv (zck hlt (zma hq.out))).symm, zab hb (zbe hb')⟩
   ·go_wp2_with fail
    go_ret
    exact ⟨zal (zhv (zck hlt (zmf hs.out))).symm, zab hb (zbe hb')⟩
  ·have hall' := zo9 (zc9 hlt hall.out)
   have Hall := Lib.hid hall'; clear hall'
   go_wp2_with (go_at_call 35; refine (zbo _ _ _ _).mono ?_; rintro e w' ⟨rfl, rfl⟩)
   go_ret
   exact ⟨zal Hall.out.symm, hb⟩
theorem ze3 {l : List Int} {k : Nat} (h : k < l.length) : l.getD k 0 = l[k] := by rw [List.getD_eq_getElem?_getD, List.getElem?_eq_getElem h]; rfl
def zgf (l : List Int) (m : Int) (k : Nat) : Bool := inB (l.getD k 0) 0 m && zj0 l k
theorem zzp {l : List Int} {m : Int} (h : (List.range l.length).all (zgf l m) = true) : zbn l 0 m = true := by
 rw [List.all_eq_true] at h; rw [zbn, Bool.and_eq_true]; refine ⟨List.all_eq_true.2 (fun i hi => ?_), List.all_eq_true.2 (fun x hx => ?_)⟩
 ·have := h i hi
  rw [zgf, Bool.and_eq_true] at this; exact this.2
 ·obtain ⟨i, hi, rfl⟩ := List.getElem_of_mem hx
  have := h i (by simpa using hi)
  rw [zgf, Bool.and_eq_true, ze3 hi] at this; exact this.1
theorem zwz {l : List Int} {m : Int} {k : Nat} (hk : k < l.length) (h : zgf l m k = false) : zbn l 0 m = false := by
 rw [zgf, Bool.and_eq_false_iff] at h; rw [zbn, Bool.and_eq_false_iff]
 rcases h with h | h
 ·rw [ze3 hk] at h
  exact .inr (List.all_eq_false.2 ⟨l[k], List.getElem_mem hk, by simp [h]⟩)
 ·exact .inl (zn1 hk h)
theorem znq {l : List Int} {m : Int} {k : Nat} (hk : k < l.length) (h1 : (List.range k).all (zgf l m) = true) (hi : inB l[k] 0 m = true) (ha : zj0 l k = true) : (List.range (k + 1)).all (zgf l m) = true := by
 rw [List.range_succ, List.all_append, h1]
 simp only [List.all_cons, List.all_nil, Bool.and_true, Bool.true_and]
 rw [zgf, ze3 hk, hi, ha]; rfl
theorem zhq (v : Value) (l : List Int) (m : Int) (w : World) (h : RdL cInt 1 w v l) :
  Calls Tryz.prog 127 #[v, .int .i64 m] w fun e w' => e = .returned (.bool (zbn l 0 m)) /\ ∃ d, w' = w.drewN d := by
 have h' := h; obtain ⟨A, c, rfl, h1, h2⟩ := h.form
 go_enter Tryz.func127, Tryz.ntmps127
 go_wp2_with fail
 go_loopw [5] (fun i wr => ∃ k : Nat, k <= l.length /\ i = .int .i64 k /\ Hid ((List.range k).all (zgf l m) = true) /\ Hid (∃ d, wr = w.drewN d)) (fun i _ => l.length - (intOf i).toNat)
 case atStart => exact ⟨0, Nat.zero_le _, rfl, by rfl, ⟨0, rfl⟩⟩
 case round =>
  obtain ⟨k, hk, rfl, hall, hd⟩ := hrel
  by_cases hlt : k < l.length
  ·have hb : Below w.heap.size w wr := by obtain ⟨d, e⟩ := hd.out; rw [e]; exact below_drewN (Below.refl _ _) d
   have hdn : ∀ n, ∃ d, wr.drewN n = w.drewN d := fun n => by obtain ⟨d, e⟩ := hd.out; exact ⟨d + n, by rw [e]; simp⟩
   obtain ⟨g, off, rfl, hg, hc⟩ := (h'.below hb).cell zat (by omega) hlt
   have k0 := hc 0 _ rfl
   simp only [Nat.add_zero, Nat.mul_one] at k0
   clear hc; have hcon := fun W => zbv l[k] 0 m W
   have hgk := ze3 hlt
   cases hi : inB l[k] 0 m <;> rw [hi] at hcon <;> have Hi := Lib.hid hi <;> have Hcon := Lib.hid hcon <;> have Hgk := Lib.hid hgk <;> have Hdn := Lib.hid hdn <;> clear hi hcon hgk hdn
   ·go_wp2_with fail
    go_quiet ((go_at_call 23; exact zgq (Hcon.out _)))
    rename_i nq
    go_wp2_with fail; go_ret; exact ⟨zal (zwz hlt (by rw [zgf, Hgk.out, Hi.out]; rfl)).symm, Hdn.out _⟩
   ·by_cases hk0 : 0 < k
    ·obtain ⟨g', off', hA, hg', hc'⟩ := (h'.below hb).cell (k := k - 1) zat (by omega) (by omega)
     injection hA with hA
     injection hA with e1 e2
     subst e1 e2; have k1 := hc' 0 _ rfl
     simp only [Nat.add_zero, Nat.mul_one] at k1
     clear hc'; have hat := znu hlt hk0; have Hat := Lib.hid hat; clear hat; have hw1 : IntKind.i64.wrap ((k : Int) - 1) = (k : Int) - 1 := IntWalk.i64_in _ (by omega)
     have hw2 : (0 : Int) <= (k : Int) - 1 := by omega
     have hw2' : (1 : Int) <= (k : Int) := by omega
     have hw4 : (k : Int) - 1 < (l.length : Int) := by omega
     have hw3 : ((k : Int) - 1).toNat = k - 1 := by omega
     by_cases hle : l[k] <= l[k - 1]
     ·go_wp2_with fail
      go_quiet ((go_at_call 23; exact zgq (Hcon.out _)))
      rename_i nq
      go_wp2_with fail; go_ret; exact ⟨zal (zwz hlt (by rw [zgf, Hgk.out, Hi.out, Hat.out]; simp; omega)).symm, Hdn.out _⟩
     ·go_wp2_with fail
      go_quiet ((go_at_call 23; exact zgq (Hcon.out _)))
      rename_i nq
      go_wp2_with fail; go_roundw
      case rel => exact ⟨k + 1, by omega, by go_num, znq hlt hall.out Hi.out (by rw [Hat.out]; exact decide_eq_true (by omega)), Hdn.out _⟩
      case measure => simp [intOf]; omega
    ·obtain rfl : k = 0 := by omega
     simp only [Nat.add_zero] at k0
     go_wp2_with fail
     go_quiet ((go_at_call 23; exact zgq (Hcon.out _)))
     rename_i nq
     go_wp2_with fail; go_roundw
     case rel => exact ⟨1, by omega, by rfl, znq (k := 0) hlt hall.out Hi.out (by rfl), Hdn.out _⟩
     case measure => simp [intOf]; omega
  ·obtain rfl : k = l.length := by omega
   go_wp2_with fail; go_ret; exact ⟨zal (zzp hall.out).symm, hd.out⟩
theorem zdp (v : Value) (l : List RPl) (w : World) (h : zel w v l) :
  Calls Tryz.prog 92 #[v] w fun e w' => e = .returned (.bool (zbt l)) /\ Below w.heap.size w w' := by
 obtain ⟨A, c, rfl, h1, h2⟩ := h.form
 go_enter Tryz.func92, Tryz.ntmps92
 go_wp2_with fail
 go_loopw [3] (fun i wr => ∃ k : Nat, k <= l.length /\ i = .int .i64 k /\ Hid ((l.take k).all zc1 = true) /\ Below w.heap.size w wr) (fun i _ => l.length - (intOf i).toNat)
 case atStart => exact ⟨0, Nat.zero_le _, rfl, by rfl, Below.refl _ _⟩
 case round =>
  obtain ⟨k, hk, rfl, hall, hb⟩ := hrel; have hz := hb.size
  by_cases hlt : k < l.length
  ·obtain ⟨g, off, u, rfl, hg, k0, k1, hru⟩ := (h.below hb).cell hlt
   obtain ⟨A1, c1, rfl, _, _⟩ := hru.form; have hcon := zhq _ l[k].1 6 _ hru
   cases hs : zbn l[k].1 0 6 <;> rw [hs] at hcon <;> have Hs := Lib.hid hs <;> have Hcon := Lib.hid hcon <;> clear hs hcon
   ·go_wp2_with (go_at_call 127; refine Hcon.out.mono ?_; rintro e w' ⟨rfl, d, rfl⟩)
    go_ret
    exact ⟨zal (zhv (zck hlt (zmf Hs.out))).symm, below_drewN hb _⟩
   ·go_wp2_with (go_at_call 127; refine Hcon.out.mono ?_; rintro e w' ⟨rfl, d, rfl⟩)
    refine two (zbv _ _ _ _) (fun hq => ?_) (fun hq => ?_)
    ·go_wp2_with fail
     go_roundw
     case rel => exact ⟨k + 1, by omega, by go_num, zc0 hlt hall.out (zo0 Hs.out hq.out), below_drewN hb _⟩
     case measure => simp [intOf]; omega
    ·go_wp2_with fail
     go_ret
     exact ⟨zal (zhv (zck hlt (zma hq.out))).symm, below_drewN hb _⟩
  ·have hall' := zo9 (zc9 hlt hall.out)
   have Hall := Lib.hid hall'; clear hall'
   go_wp2_with (go_at_call 23; refine (zbv _ _ _ _).mono ?_; rintro e w' ⟨rfl, rfl⟩)
   go_ret
   exact ⟨zal Hall.out.symm, hb⟩
def za7 (n : Int) (cs : List zad) (ps : List RPl) : Bool := zax n cs && zbt ps
theorem zch (n : Int) (v1 v2 : Value) (cs : List zad) (ps : List RPl) (w : World) (h : zaq w v1 v2 cs ps) :
  Calls Tryz.prog 76 #[.agg #[.int .i64 n, v1, v2]] w fun e w' => e = .returned (.bool (za7 n cs ps)) /\ Below w.heap.size w w' := by
 obtain ⟨⟨A1, c1, rfl⟩, ⟨A2, c2, rfl⟩⟩ := h.forms; obtain ⟨h1, h2⟩ := h
 go_enter Tryz.func76, Tryz.ntmps76
 go_wp2_with fail; refine twoB (zb6 n _ cs _ (h1.below (bL))) (fun w' hq hb => ?_) (fun w' hq hb => ?_)
 ·have k2 := za5 (b := w.heap.size) (o := 2) (v := .slice A2 ps.length c2) hb (by simp [go_sem])
  have hb' := zbe hb
  go_wp2_with (go_at_call 113; refine (zdn _ ps _ (h2.below hb')).mono ?_; rintro e w2 ⟨rfl, hb2⟩)
  go_ret
  exact ⟨zal (by rw [za7, hq.out]; rfl), zab hb' hb2⟩
 ·go_wp2_with fail
  go_ret
  exact ⟨zal (by rw [za7, hq.out]; rfl), zbe hb⟩
theorem zb4 (n : Int) (v1 v2 : Value) (cs : List zad) (ps : List RPl) (w : World) (h : zaq w v1 v2 cs ps) :
  Calls Tryz.prog 51 #[.agg #[.int .i64 n, v1, v2]] w fun e w' => e = .returned (.bool (za7 n cs ps)) /\ Below w.heap.size w w' := by
 obtain ⟨⟨A1, c1, rfl⟩, ⟨A2, c2, rfl⟩⟩ := h.forms; obtain ⟨h1, h2⟩ := h
 go_enter Tryz.func51, Tryz.ntmps51
 go_wp2_with fail; refine twoB (zbs n _ cs _ (h1.below (bL))) (fun w' hq hb => ?_) (fun w' hq hb => ?_)
 ·have k2 := za5 (b := w.heap.size) (o := 2) (v := .slice A2 ps.length c2) hb (by simp [go_sem])
  have hb' := zbe hb
  go_wp2_with (go_at_call 92; refine (zdp _ ps _ (h2.below hb')).mono ?_; rintro e w2 ⟨rfl, hb2⟩)
  go_ret
  exact ⟨zal (by rw [za7, hq.out]; rfl), zab hb' hb2⟩
 ·go_wp2_with fail
  go_ret
  exact ⟨zal (by rw [za7, hq.out]; rfl), zbe hb⟩
def upN (n : Nat) : List Int := (List.range n).map (fun i : Nat => (i : Int))
theorem zrz (n : Nat) : upN (n + 1) = upN n ++ [(n : Int)] := by unfold upN; rw [List.range_succ, List.map_append]; rfl
theorem zej (n : Nat) : (upN n).length = n := by simp [upN]
def upF (n : Int) : List Int := upN n.toNat
theorem zka (n : Nat) (w : World) (hn : n <= 100000) :
  Calls Tryz.prog 90 #[.int .i64 n] w fun e w' => ∃ v', e = .returned v' /\ w'.ownsRow w.heap.size 3 1 v' (upN n).length ((upN n).flatMap cInt) /\ Below w.heap.size w w' := by
 obtain ⟨i0, hi0, hz0, hz1, hz2⟩ := info_parts zcd
 go_enter Tryz.func90, Tryz.ntmps90
 go_wp2_with fail
 go_loopw [3, 7] (fun q i wr => ∃ k : Nat, k <= n /\ i = .int .i64 k /\ wr.ownsRow w.heap.size 3 1 q k ((upN k).flatMap cInt) /\ Below w.heap.size w wr) (fun _ i _ => n - (intOf i).toNat)
 case atStart => exact ⟨0, Nat.zero_le _, rfl, World.ownsRow_made (size := 1) (e := 3) w #[] 0 (Nat.le_refl _) (by simp [maxLen]) rfl, bL⟩
 case round =>
  obtain ⟨k, hk, rfl, hown, hb⟩ := hrel; have hz := hb.size; have Hs := Lib.hid (zrz k)
  by_cases hlt : k < n
  ·go_wp2_with (at_builtin; refine zaf _ rfl (.tmp 10) (.tmp 12) _ rfl w.heap.size 3 i0 _ 1 8 Tryz.underlying37 hi0 hz0 hz1 hz2 rfl (by omega) _ k ((upN k).flatMap cInt) rfl (hown.alloc _) _ 1 [.int .i64 k] rfl (zap wr #[.int .i64 k] _ 1 1 rfl (by simp [maxLen])) (by simp [Value.oneCell']) (by simp [maxLen]; omega) (by omega) (by simp; omega) ?_; intro v2 w2 hown2 hgr2)
   have hb2 : Below w.heap.size (wr.alloc (Obj.cells #[.int .i64 k] 3)) w2 := zag (hown.alloc _) hgr2 (by simp; omega)
   clear hgr2; go_wp2_with fail; go_roundw
   case rel => exact ⟨k + 1, by omega, by go_num, by rw [Hs.out, List.flatMap_append]; exact hown2, (hb.alloc (by omega) _).trans hb2⟩
   case measure => simp [intOf]; omega
  ·obtain rfl : k = n := by omega
   go_wp2_with fail; go_ret; rw [zej]; exact ⟨_, rfl, hown, hb⟩
theorem zf8 (n : Nat) (w : World) (hn : n <= 100000) :
  Calls Tryz.prog 60 #[.int .i64 n] w fun e w' => ∃ v', e = .returned v' /\ w'.ownsRow w.heap.size 3 1 v' (upN n).length ((upN n).flatMap cInt) /\ Below w.heap.size w w' := by
 obtain ⟨i0, hi0, hz0, hz1, hz2⟩ := info_parts zcd
 go_enter Tryz.func60, Tryz.ntmps60
 go_wp2_with fail
 go_loopw [3, 4] (fun q i wr => ∃ k : Nat, k <= n /\ i = .int .i64 k /\ wr.ownsRow w.heap.size 3 1 q k ((upN k).flatMap cInt) /\ Below w.heap.size w wr) (fun _ i _ => n - (intOf i).toNat)
 case atStart => exact ⟨0, Nat.zero_le _, rfl, World.ownsRow_made (size := 1) (e := 3) w #[] 0 (Nat.le_refl _) (by simp [maxLen]) rfl, bL⟩
 case round =>
  obtain ⟨k, hk, rfl, hown, hb⟩ := hrel; have hz := hb.size; have Hs := Lib.hid (zrz k)
  by_cases hlt : k < n
  ·go_wp2_with (at_builtin; refine zaf _ rfl (.tmp 11) (.tmp 13) _ rfl w.heap.size 3 i0 _ 1 8 Tryz.underlying37 hi0 hz0 hz1 hz2 rfl (by omega) _ k ((upN k).flatMap cInt) rfl (hown.alloc _) _ 1 [.int .i64 k] rfl (zap wr #[.int .i64 k] _ 1 1 rfl (by simp [maxLen])) (by simp [Value.oneCell']) (by simp [maxLen]; omega) (by omega) (by simp; omega) ?_; intro v2 w2 hown2 hgr2)
   have hb2 : Below w.heap.size (wr.alloc (Obj.cells #[.int .i64 k] 3)) w2 := zag (hown.alloc _) hgr2 (by simp; omega)
   clear hgr2; go_wp2_with fail; go_roundw
   case rel => exact ⟨k + 1, by omega, by go_num, by rw [Hs.out, List.flatMap_append]; exact hown2, (hb.alloc (by omega) _).trans hb2⟩
   case measure => simp [intOf]; omega
  ·obtain rfl : k = n := by omega
   go_wp2_with fail; go_ret; rw [zej]; exact ⟨_, rfl, hown, hb⟩
def zwa (n : Int) (cs : List zad) (ps : List RPl) : List Int := if za7 n cs ps = true then upF n else []
theorem zhz {n : Int} {cs : List zad} {ps : List RPl} (h : za7 n cs ps = true) : zax n cs = true /\ zbt ps = true := by rwa [za7, Bool.and_eq_true] at h
theorem ztp {n : Int} {cs : List zad} {ps : List RPl} (h : za7 n cs ps = true) : zwa n cs ps = upF n := if_pos h
theorem zx0 {n : Int} {cs : List zad} {ps : List RPl} (h : za7 n cs ps = false) : zwa n cs ps = [] := if_neg (by rw [h]; simp)
theorem zii (n : Int) (v1 v2 : Value) (cs : List zad) (ps : List RPl) (w : World) (h : zaq w v1 v2 cs ps) :
  Calls Tryz.prog 65 #[.agg #[.int .i64 n, v1, v2]] w fun e w' => ∃ v', e = .returned v' /\ w'.ownsRow w.heap.size 3 1 v' (zwa n cs ps).length ((zwa n cs ps).flatMap cInt) /\ Below w.heap.size w w' := by
 obtain ⟨⟨A1, c1, rfl⟩, ⟨A2, c2, rfl⟩⟩ := h.forms
 go_enter Tryz.func65, Tryz.ntmps65
 go_wp2_with fail; refine twoB (zb4 n _ _ cs ps _ (h.below (bL))) (fun w' hq hb => ?_) (fun w' hq hb => ?_)
 ·have k0 := za5 (b := w.heap.size) (o := 0) (v := .int .i64 n) hb (by simp [go_sem])
  have hn := (za2 (zhz hq.out).1).1; have hb' := zbe hb; obtain ⟨m, rfl⟩ := Int.eq_ofNat_of_zero_le (show 0 <= n by omega)
  go_wp2_with (go_at_call 60; refine (zf8 m _ (by omega)).mono ?_; rintro e w2 ⟨v2, rfl, hown, hb2⟩)
  go_ret
  rw [ztp hq.out]; exact ⟨_, rfl, zaj hown hb'.size, zab hb' hb2⟩
 ·have hb' := zbe hb
  go_wp2_with fail; go_ret; rw [zx0 hq.out]; exact ⟨_, rfl, zaj (World.ownsRow_made (size := 1) (e := 3) w' #[] 0 (Nat.le_refl _) (by simp [maxLen]) rfl) hb'.size, hb'.alloc hb'.size _⟩
def zct (l : List Int) : Bool := decide (l.length <= 60) && zbn l 0 365
theorem zoc {l : List Int} (h : ¬ l.length <= 60) : zct l = false := by rw [zct, decide_eq_false h]; rfl
theorem zro {l : List Int} (h : l.length <= 60) : zct l = zbn l 0 365 := by rw [zct, decide_eq_true h]; rfl
theorem zgh {l : List Int} (h : zct l = true) : l.length <= 60 /\ ∀ x ∈ l, 0 <= x /\ x <= 365 := by
 rw [zct, Bool.and_eq_true, decide_eq_true_iff, zbn, Bool.and_eq_true] at h; exact ⟨h.1, fun x hx => zbg.1 (List.all_eq_true.1 h.2.2 x hx)⟩
theorem zc5 (v : Value) (l : List Int) (w : World) (h : RdL cInt 1 w v l) :
  Calls Tryz.prog 114 #[v] w fun e w' => e = .returned (.bool (zct l)) /\ Below w.heap.size w w' := by
 have h0 := h; obtain ⟨A, c, rfl, h1, h2⟩ := h.form
 by_cases hl : l.length <= 60
 ·go_enter Tryz.func114, Tryz.ntmps114
  go_wp2_with (go_at_call 147; refine (zev _ l 0 365 _ h0).mono ?_; rintro e w' ⟨rfl, hb⟩)
  go_ret
  exact ⟨zal (zro hl).symm, hb⟩
 ·go_enter Tryz.func114, Tryz.ntmps114
  go_wp2_with fail; go_ret; exact ⟨zal (zoc hl).symm, Below.refl _ _⟩
theorem zcb (v : Value) (l : List Int) (w : World) (h : RdL cInt 1 w v l) :
  Calls Tryz.prog 93 #[v] w fun e w' => e = .returned (.bool (zct l)) /\ Below w.heap.size w w' := by
 have h0 := h; obtain ⟨A, c, rfl, h1, h2⟩ := h.form
 by_cases hl : l.length <= 60
 ·go_enter Tryz.func93, Tryz.ntmps93
  go_wp2_with (go_at_call 127; refine (zhq _ l 365 _ h0).mono ?_; rintro e w' ⟨rfl, d, rfl⟩)
  go_ret
  exact ⟨zal (zro hl).symm, below_drewN (Below.refl _ _) _⟩
 ·go_enter Tryz.func93, Tryz.ntmps93
  go_wp2_with fail; go_ret; exact ⟨zal (zoc hl).symm, Below.refl _ _⟩
def runR (l : List Int) : Nat -> Nat
 | 0 => 0
 | k + 1 => if 0 < k /\ l.getD (k - 1) 0 + 1 = l.getD k 0 then runR l k + 1 else 1
def runB (l : List Int) : Nat -> Nat
 | 0 => 0
 | k + 1 => max (runB l k) (runR l (k + 1))
theorem zp8 (l : List Int) (k : Nat) : runR l k <= k := by
 induction k with
 | zero => exact Nat.le_refl _
 | succ k ih => unfold runR; split <;> omega
theorem ztz (l : List Int) (k : Nat) : runB l k <= k := by
 induction k with
 | zero => exact Nat.le_refl _
 | succ k ih => unfold runB; have := zp8 l (k + 1); omega
theorem zxw {l : List Int} {k : Nat} (hk : k < l.length) (h0 : 0 < k) (h : l[k - 1] + 1 = l[k]) : runR l (k + 1) = runR l k + 1 := by
 rw [runR, if_pos]; rw [ze3 hk, ze3 (by omega)]
 exact ⟨h0, h⟩
theorem zq7 {l : List Int} {k : Nat} (hk : k < l.length) (h : ¬ (0 < k /\ l[k - 1] + 1 = l[k])) : runR l (k + 1) = 1 := by
 rw [runR, if_neg]; rw [ze3 hk, ze3 (by omega)]
 exact h
theorem zn0 (l : List Int) (k : Nat) : runB l (k + 1) = max (runB l k) (runR l (k + 1)) := rfl
def runF (l : List Int) : Int := if zct l = true then (runB l l.length : Int) else -1
theorem zxd {l : List Int} (h : zct l = true) : runF l = runB l l.length := if_pos h
theorem zw3 {l : List Int} (h : zct l = false) : runF l = -1 := if_neg (by rw [h]; simp)
theorem znf {a b : Nat} {c : Int} (h : (b : Int) = c) : (if (a : Int) < c then c else (a : Int)) = ((max a b : Nat) : Int) := by split <;> omega
theorem zih (v : Value) (l : List Int) (w : World) (h : RdL cInt 1 w v l) :
  Calls Tryz.prog 115 #[v] w fun e w' => e = .returned (.int .i64 (runF l)) /\ Below w.heap.size w w' := by
 have h0 := h; obtain ⟨A, c, rfl, h1, h2⟩ := h.form
 go_enter Tryz.func115, Tryz.ntmps115
 go_wp2_with fail; refine twoB (zc5 _ l _ h0) (fun w1 hq hb => ?_) (fun w1 hq hb => ?_)
 ·have hs := zgh hq.out
  have hr := h0.below hb; have hl60 := hs.1; have Hs := Lib.hid hs.2; clear hs; go_wp2_with fail
  go_loop [3, 4, 12] (fun b r i => ∃ k : Nat, k <= l.length /\ i = .int .i64 k /\ b = .int .i64 (runB l k) /\ r = .int .i64 (runR l k)) (fun _ _ i => l.length - (intOf i).toNat)
  case atStart => exact ⟨0, Nat.zero_le _, rfl, rfl, rfl⟩
  case round =>
   obtain ⟨k, hk, rfl, rfl, rfl⟩ := hrel
   by_cases hlt : k < l.length
   ·obtain ⟨g, off, rfl, hg, hc⟩ := hr.cell zat (by omega) hlt
    have j0 := hc 0 _ rfl
    simp only [Nat.add_zero, Nat.mul_one] at j0
    clear hc; have hx := Hs.out _ (List.getElem_mem hlt); have hbl := ztz l k; have hrl := zp8 l k; have hsu := zn0 l k; have hkk : k - 1 < l.length := by omega
    by_cases h00 : 0 < k
    ·obtain ⟨g', off', hA, hg', hc'⟩ := hr.cell (k := k - 1) zat (by omega) (by omega)
     injection hA with hA
     injection hA with e1 e2
     subst e1 e2; have j1 := hc' 0 _ rfl
     simp only [Nat.add_zero, Nat.mul_one] at j1
     clear hc'
     by_cases hrun : l[k - 1] + 1 = l[k]
     ·have hrr := zxw hlt h00 hrun
      rw [hrr] at hsu; have Hsu := Lib.hid hsu; have Hrr := Lib.hid hrr; have hd : (l[k - 1] == l[k] - 1) = true := by rw [beq_iff_eq]; omega
      clear hsu hrr hrun; generalize runB l k = b at *
      generalize runR l k = r at *
      go_wp2_with fail; go_round
      case rel => exact ⟨k + 1, by omega, by go_num, zcn (by rw [Hsu.out]; first | exact znf (by omega) | (split <;> omega)), zcn (by rw [Hrr.out]; omega)⟩
      case measure => simp [intOf]; omega
     ·have hrr := zq7 hlt (fun h => hrun h.2)
      rw [hrr] at hsu; have Hsu := Lib.hid hsu; have Hrr := Lib.hid hrr; have hd : (l[k - 1] == l[k] - 1) = false := by rw [beq_eq_false_iff_ne]; omega
      clear hsu hrr hrun; generalize runB l k = b at *
      generalize runR l k = r at *
      go_wp2_with fail; go_round
      case rel => exact ⟨k + 1, by omega, by go_num, zcn (by rw [Hsu.out]; first | exact znf (by omega) | (split <;> omega)), zcn (by rw [Hrr.out]; omega)⟩
      case measure => simp [intOf]; omega
    ·obtain rfl : k = 0 := by omega
     simp only [Nat.add_zero] at j0
     have hrr : runR l 1 = 1 := zq7 hlt (fun h => absurd h.1 (by omega))
     replace hsu : runB l 1 = 1 := by show max 0 (runR l 1) = 1; rw [hrr]; rfl
     have Hsu := Lib.hid hsu; have Hrr := Lib.hid hrr; clear hsu hrr; go_wp2_with fail; go_round
     case rel => exact ⟨1, by omega, by rfl, zcn (by rw [Hsu.out]; rfl), zcn (by rw [Hrr.out]; rfl)⟩
     case measure => simp [intOf]; omega
   ·obtain rfl : k = l.length := by omega
    go_wp2_with fail; go_ret; exact ⟨zim (zxd hq.out).symm, hb⟩
 ·go_wp2_with fail
  go_ret
  exact ⟨zim (zw3 hq.out).symm, hb⟩
theorem zig (v : Value) (l : List Int) (w : World) (h : RdL cInt 1 w v l) :
  Calls Tryz.prog 94 #[v] w fun e w' => e = .returned (.int .i64 (runF l)) /\ Below w.heap.size w w' := by
 have h0 := h; obtain ⟨A, c, rfl, h1, h2⟩ := h.form
 go_enter Tryz.func94, Tryz.ntmps94
 go_wp2_with fail; refine twoB (zcb _ l _ h0) (fun w1 hq hb => ?_) (fun w1 hq hb => ?_)
 ·have hs := zgh hq.out
  have hl60 := hs.1; have Hs := Lib.hid hs.2; clear hs; go_wp2_with fail
  go_loopw [3, 4, 5] (fun b r i wr => ∃ k : Nat, k <= l.length /\ i = .int .i64 k /\ b = .int .i64 (runB l k) /\ r = .int .i64 (runR l k) /\ Below w.heap.size w wr) (fun _ _ i _ => l.length - (intOf i).toNat)
  case atStart => exact ⟨0, Nat.zero_le _, rfl, rfl, rfl, hb⟩
  case round =>
   obtain ⟨k, hk, rfl, rfl, rfl, hbr⟩ := hrel; have hr := h0.below hbr
   by_cases hlt : k < l.length
   ·obtain ⟨g, off, rfl, hg, hc⟩ := hr.cell zat (by omega) hlt
    have j0 := hc 0 _ rfl
    simp only [Nat.add_zero, Nat.mul_one] at j0
    clear hc; have hx := Hs.out _ (List.getElem_mem hlt); have hbl := ztz l k; have hrl := zp8 l k; have hsu := zn0 l k; have hkk : k - 1 < l.length := by omega
    by_cases h00 : 0 < k
    ·obtain ⟨g', off', hA, hg', hc'⟩ := hr.cell (k := k - 1) zat (by omega) (by omega)
     injection hA with hA
     injection hA with e1 e2
     subst e1 e2; have j1 := hc' 0 _ rfl
     simp only [Nat.add_zero, Nat.mul_one] at j1
     clear hc'; have hy := Hs.out _ (List.getElem_mem (show k - 1 < l.length by omega))
     have hw1 : IntKind.i64.wrap ((k : Int) - 1) = (k : Int) - 1 := IntWalk.i64_in _ (by omega)
     have hw2 : (0 : Int) <= (k : Int) - 1 := by omega
     have hw2' : (1 : Int) <= (k : Int) := by omega
     have hw4 : (k : Int) - 1 < (l.length : Int) := by omega
     have hw3 : ((k : Int) - 1).toNat = k - 1 := by omega
     have hw5 : IntKind.i64.wrap (l[k - 1] + 1) = l[k - 1] + 1 := IntWalk.i64_in _ (by omega)
     by_cases hrun : l[k - 1] + 1 = l[k]
     ·have hrr := zxw hlt h00 hrun
      rw [hrr] at hsu; have Hsu := Lib.hid hsu; have Hrr := Lib.hid hrr; have hd : (l[k] == l[k - 1] + 1) = true := by rw [beq_iff_eq]; omega
      clear hsu hrr hrun; generalize runB l k = b at *
      generalize runR l k = r at *
      go_wp2_with fail
      go_quiet (fail)
      go_wp2_with fail; go_roundw
      case rel => exact ⟨k + 1, by omega, by go_num, zcn (by rw [Hsu.out]; first | exact znf (by omega) | (split <;> omega)), zcn (by rw [Hrr.out]; omega), by first | exact hbr.drew | exact below_drewN hbr _⟩
      case measure => simp [intOf]; omega
     ·have hrr := zq7 hlt (fun h => hrun h.2)
      rw [hrr] at hsu; have Hsu := Lib.hid hsu; have Hrr := Lib.hid hrr; have hd : (l[k] == l[k - 1] + 1) = false := by rw [beq_eq_false_iff_ne]; omega
      clear hsu hrr hrun; generalize runB l k = b at *
      generalize runR l k = r at *
      go_wp2_with fail
      go_quiet (fail)
      go_wp2_with fail; go_roundw
      case rel => exact ⟨k + 1, by omega, by go_num, zcn (by rw [Hsu.out]; first | exact znf (by omega) | (split <;> omega)), zcn (by rw [Hrr.out]; omega), by first | exact hbr.drew | exact below_drewN hbr _⟩
      case measure => simp [intOf]; omega
    ·obtain rfl : k = 0 := by omega
     simp only [Nat.add_zero] at j0
     have hrr : runR l 1 = 1 := zq7 hlt (fun h => absurd h.1 (by omega))
     replace hsu : runB l 1 = 1 := by show max 0 (runR l 1) = 1; rw [hrr]; rfl
     have Hsu := Lib.hid hsu; have Hrr := Lib.hid hrr; clear hsu hrr; go_wp2_with fail
     go_quiet (fail)
     go_wp2_with fail; go_roundw
     case rel => exact ⟨1, by omega, by rfl, zcn (by rw [Hsu.out]; rfl), zcn (by rw [Hrr.out]; rfl), by first | exact hbr.drew | exact below_drewN hbr _⟩
     case measure => simp [intOf]; omega
   ·obtain rfl : k = l.length := by omega
    go_wp2_with fail; go_ret; exact ⟨zim (zxd hq.out).symm, hbr⟩
 ·go_wp2_with fail
  go_ret
  exact ⟨zim (zw3 hq.out).symm, hb⟩
def zgo (l : List Int) (r : Int) : Bool := (zct l && inB r 1 60) && decide (runF l <= r)
theorem zik (v : Value) (l : List Int) (r : Int) (w : World) (h : RdL cInt 1 w v l) :
  Calls Tryz.prog 77 #[v, .int .i64 r] w fun e w' => e = .returned (.bool (zgo l r)) /\ Below w.heap.size w w' := by
 have h0 := h; obtain ⟨A, c, rfl, h1, h2⟩ := h.form
 go_enter Tryz.func77, Tryz.ntmps77
 go_wp2_with fail; refine twoB (zc5 _ l _ h0) (fun w1 hq hb => ?_) (fun w1 hq hb => ?_)
 ·go_wp2_with fail
  refine two (zbo _ _ _ _) (fun hc => ?_) (fun hc => ?_)
  ·have hcon := zih _ l _ (h0.below hb)
   obtain ⟨x, hx⟩ : ∃ x, runF l = x := ⟨_, rfl⟩; rw [hx] at hcon; have Hx := Lib.hid hx; have Hcon := Lib.hid hcon; clear hx hcon
   go_wp2_with (go_at_call 115; refine Hcon.out.mono ?_; rintro e w2 ⟨rfl, hb2⟩)
   go_ret
   exact ⟨zal (by rw [zgo, hq.out, hc.out, Hx.out]; rfl), zab hb hb2⟩
  ·go_wp2_with fail
   go_ret
   exact ⟨zal (by rw [zgo, hc.out, Bool.and_false]; rfl), hb⟩
 ·go_wp2_with fail
  go_ret
  exact ⟨zal (by rw [zgo, hq.out]; rfl), hb⟩
theorem zi9 (v : Value) (l : List Int) (r : Int) (w : World) (h : RdL cInt 1 w v l) :
  Calls Tryz.prog 52 #[v, .int .i64 r] w fun e w' => e = .returned (.bool (zgo l r)) /\ Below w.heap.size w w' := by
 have h0 := h; obtain ⟨A, c, rfl, h1, h2⟩ := h.form
 go_enter Tryz.func52, Tryz.ntmps52
 go_wp2_with fail; refine twoB (zcb _ l _ h0) (fun w1 hq hb => ?_) (fun w1 hq hb => ?_)
 ·go_wp2_with fail
  refine two (zbv _ _ _ _) (fun hc => ?_) (fun hc => ?_)
  ·have hcon := zig _ l _ (h0.below hb)
   obtain ⟨x, hx⟩ : ∃ x, runF l = x := ⟨_, rfl⟩; rw [hx] at hcon; have Hx := Lib.hid hx; have Hcon := Lib.hid hcon; clear hx hcon
   go_wp2_with (go_at_call 94; refine Hcon.out.mono ?_; rintro e w2 ⟨rfl, hb2⟩)
   go_ret
   exact ⟨zal (by rw [zgo, hq.out, hc.out, Hx.out]; rfl), zab hb hb2⟩
  ·go_wp2_with fail
   go_ret
   exact ⟨zal (by rw [zgo, hc.out, Bool.and_false]; rfl), hb⟩
 ·go_wp2_with fail
  go_ret
  exact ⟨zal (by rw [zgo, hq.out]; rfl), hb⟩
def zau (n m : Int) (cs : List zad) (ps : List RPl) (ds : List Int) : Bool := (za7 n cs ps && zgo ds 5) && inB m 0 1000000
theorem zb7 (n m : Int) (v1 v2 v3 : Value) (cs : List zad) (ps : List RPl) (ds : List Int) (w : World) (h : zak w v1 v2 v3 cs ps ds) :
  Calls Tryz.prog 40 #[.agg #[.int .i64 n, v1, v2, v3, .int .i64 m]] w fun e w' => e = .returned (.bool (zau n m cs ps ds)) /\ Below w.heap.size w w' := by
 obtain ⟨⟨A1, c1, rfl⟩, ⟨A2, c2, rfl⟩, ⟨A3, c3, rfl⟩⟩ := h.forms; obtain ⟨h1, h2⟩ := h
 go_enter Tryz.func40, Tryz.ntmps40
 go_wp2_with fail; refine twoB (zch n _ _ cs ps _ (h1.below (bL))) (fun w1 hq hb => ?_) (fun w1 hq hb => ?_)
 ·have k3 := za5 (b := w.heap.size) (o := 3) (v := .slice A3 ds.length c3) hb (by simp [go_sem])
  have k4 := za5 (b := w.heap.size) (o := 4) (v := .int .i64 m) hb (by simp [go_sem])
  have hb' := zbe hb; go_wp2_with fail; refine twoB (zik _ ds 5 _ (h2.below hb')) (fun w2 hr hb2 => ?_) (fun w2 hr hb2 => ?_)
  ·replace k4 := za5 hb2 k4
   go_wp2_with (go_at_call 35; refine (zbo _ _ _ _).mono ?_; rintro e w3 ⟨rfl, rfl⟩)
   go_ret
   exact ⟨zal (by rw [zau, hq.out, hr.out]; rfl), zab hb' hb2⟩
  ·go_wp2_with fail
   go_ret
   exact ⟨zal (by rw [zau, hr.out, Bool.and_false]; rfl), zab hb' hb2⟩
 ·go_wp2_with fail
  go_ret
  exact ⟨zal (by rw [zau, hq.out]; rfl), zbe hb⟩
theorem za3 (n m : Int) (v1 v2 v3 : Value) (cs : List zad) (ps : List RPl) (ds : List Int) (w : World) (h : zak w v1 v2 v3 cs ps ds) :
  Calls Tryz.prog 27 #[.agg #[.int .i64 n, v1, v2, v3, .int .i64 m]] w fun e w' => e = .returned (.bool (zau n m cs ps ds)) /\ Below w.heap.size w w' := by
 obtain ⟨⟨A1, c1, rfl⟩, ⟨A2, c2, rfl⟩, ⟨A3, c3, rfl⟩⟩ := h.forms; obtain ⟨h1, h2⟩ := h
 go_enter Tryz.func27, Tryz.ntmps27
 go_wp2_with fail; refine twoB (zb4 n _ _ cs ps _ (h1.below (bL))) (fun w1 hq hb => ?_) (fun w1 hq hb => ?_)
 ·have k3 := za5 (b := w.heap.size) (o := 3) (v := .slice A3 ds.length c3) hb (by simp [go_sem])
  have k4 := za5 (b := w.heap.size) (o := 4) (v := .int .i64 m) hb (by simp [go_sem])
  have hb' := zbe hb; go_wp2_with fail; refine twoB (zi9 _ ds 5 _ (h2.below hb')) (fun w2 hr hb2 => ?_) (fun w2 hr hb2 => ?_)
  ·replace k4 := za5 hb2 k4
   go_wp2_with (go_at_call 23; refine (zbv _ _ _ _).mono ?_; rintro e w3 ⟨rfl, rfl⟩)
   go_ret
   exact ⟨zal (by rw [zau, hq.out, hr.out]; rfl), zab hb' hb2⟩
  ·go_wp2_with fail
   go_ret
   exact ⟨zal (by rw [zau, hr.out, Bool.and_false]; rfl), zab hb' hb2⟩
 ·go_wp2_with fail
  go_ret
  exact ⟨zal (by rw [zau, hq.out]; rfl), zbe hb⟩
theorem zke {w : World} {base : Nat} {e : TypeId} {size n : Nat} (cur : Array Value) (hb : base <= w.heap.size) (hm : n <= maxLen) (hs : cur.size = n * size) :
  (w.alloc (.cells cur e)).ownsRow base e size (.slice (some ⟨w.heap.size, 0, none⟩) n n) n cur.toList :=
 ⟨by simpa using hs, .inr ⟨w.heap.size, n, cur, rfl, hb, heap_alloc_new w _, Nat.le_refl _, hm, hs, by rw [<- hs, <- Array.length_toList, List.take_length]⟩⟩
theorem zc3 {w : World} {p : Addr} {v : Value} (o : Obj) (h : w.cell? p = some v) (hf : w.frozen? p = false) : (w.alloc o).frozen? p = false :=
 (((Below.refl w.heap.size w).alloc (Nat.le_refl _) o).frozen (World.block_lt_of_cell? w _ h)).trans hf
def zft : List RPl := [([0], 2)]
def ze9 (n m : Int) : Bool := zau n m [] zft []
def zlq (b : Bool) (x : Int) : Int := if b = true then x else 0
def ztv (b : Bool) : List RPl := if b = true then zft else []
def zkd (n m : Int) (w : World) (e : Ending) (w' : World) : Prop :=
 ∃ x1 x2 x3 S, e = .returned (.tuple #[.agg #[.int .i64 (zlq (ze9 n m) n), x1, x2, x3, .int .i64 (zlq (ze9 n m) m)], .bool (ze9 n m)]) /\ zai w' S x1 x2 x3 [] (ztv (ze9 n m)) [] /\ zbc w.heap.size w' S /\ Below w.heap.size w w'
theorem zud (w : World) : zai w [] (.slice none 0 0) (.slice none 0 0) (.slice none 0 0) [] [] [] :=
 ⟨[], [], rfl, ⟨[], [], rfl, ⟨World.ownsRow_nil _ _ _ _, rfl⟩, zcv.empty w⟩, ⟨World.ownsRow_nil _ _ _ _, rfl⟩⟩
theorem zpb (B : Nat) (w : World) : zbc B w [] := ⟨List.nodup_nil, fun b hb => by simp at hb⟩
theorem zxj (w : World) {b c : Nat} (h1 : w.ownsRow 0 3 1 (.slice (some ⟨b, 0, none⟩) 1 1) 1 [.int .i64 0]) (h2 : w.ownsRow 0 60 2 (.slice (some ⟨c, 0, none⟩) 1 1) 1 [.slice (some ⟨b, 0, none⟩) 1 1, .int .i64 2]) :
  zcv w [c, b] (.slice (some ⟨c, 0, none⟩) 1 1) zft := by
 refine ⟨[(.slice (some ⟨b, 0, none⟩) 1 1, 2)], rfl, h2, fun i p r hp hr => ?_, rfl⟩
 cases i with
 | zero =>
  simp [zft] at hp hr
  subst hp hr; exact ⟨rfl, h1⟩
 | succ i => simp at hp
theorem zhk (n m : Int) (w : World) :
  Calls Tryz.prog 42 #[.int .i64 n, .int .i64 m] w (zkd n m w) := by
 go_enter Tryz.func42, Tryz.ntmps42
 go_wp2_with fail
 have o1 : (((w.alloc (.cells #[.int .i64 0, .slice none 0 0, .slice none 0 0, .slice none 0 0, .int .i64 0] 39)).alloc (.cells #[.int .i64 0] 3))).ownsRow 0 3 1 (.slice (some ⟨w.heap.size + 1, 0, none⟩) 1 1) 1 [.int .i64 0] := by
  have := zke (w := w.alloc (.cells #[.int .i64 0, .slice none 0 0, .slice none 0 0, .slice none 0 0, .int .i64 0] 39)) (base := 0) (e := 3) (size := 1) (n := 1) #[.int .i64 0] (Nat.zero_le _) (by simp [maxLen]) rfl
  simpa using this
 have o2 : (((w.alloc (.cells #[.int .i64 0, .slice none 0 0, .slice none 0 0, .slice none 0 0, .int .i64 0] 39)).alloc (.cells #[.int .i64 0] 3)).alloc (.cells #[.slice (some ⟨w.heap.size + 1, 0, none⟩) 1 1, .int .i64 2] 60)).ownsRow 0 60 2 (.slice (some ⟨w.heap.size + 1 + 1, 0, none⟩) 1 1) 1 [.slice (some ⟨w.heap.size + 1, 0, none⟩) 1 1, .int .i64 2] := by
  have := zke (w := (w.alloc (.cells #[.int .i64 0, .slice none 0 0, .slice none 0 0, .slice none 0 0, .int .i64 0] 39)).alloc (.cells #[.int .i64 0] 3)) (base := 0) (e := 60) (size := 2) (n := 1) #[.slice (some ⟨w.heap.size + 1, 0, none⟩) 1 1, .int .i64 2] (Nat.zero_le _) (by simp [maxLen]) rfl
  simpa using this
 have op := (zxj _ (o1.alloc _) o2).below ((Below.refl _ _).alloc (Nat.le_refl _) (.cells #[.int .i64 n, .slice none 0 0, .slice (some ⟨w.heap.size + 1 + 1, 0, none⟩) 1 1, .slice none 0 0, .int .i64 m] 39)); have hrd : zak _ (.slice none 0 0) (.slice (some ⟨w.heap.size + 1 + 1, 0, none⟩) 1 1) (.slice none 0 0) [] zft [] := ⟨⟨RdS.of_own (World.ownsRow_nil _ 0 0 _), op.rd⟩, RdS.of_own (World.ownsRow_nil _ 0 0 _)⟩; refine twoB (zb7 n m _ _ _ [] zft [] _ hrd) (fun w1 hq hb => ?_) (fun w1 hq hb => ?_)
 all_goals
  have hz := hb.size
  simp at hz
  have c0 := za5 (b := w.heap.size + 1 + 1 + 1) (o := 0) (v := .int .i64 n) hb (by simp [go_sem])
  have c1 := za5 (b := w.heap.size + 1 + 1 + 1) (o := 1) (v := .slice none 0 0) hb (by simp [go_sem])
  have c2 := za5 (b := w.heap.size + 1 + 1 + 1) (o := 2) (v := .slice (some ⟨w.heap.size + 1 + 1, 0, none⟩) 1 1) hb (by simp [go_sem])
  have c3 := za5 (b := w.heap.size + 1 + 1 + 1) (o := 3) (v := .slice none 0 0) hb (by simp [go_sem])
  have c4 := za5 (b := w.heap.size + 1 + 1 + 1) (o := 4) (v := .int .i64 m) hb (by simp [go_sem])
  have p0 := zcw (b := w.heap.size) (o := 0) (v := .int .i64 0) hb (by simp [go_sem]) (by simp [go_sem])
  have p1 := zcw (b := w.heap.size) (o := 1) (v := .slice none 0 0) hb (by simp [go_sem]) (by simp [go_sem])
  have p2 := zcw (b := w.heap.size) (o := 2) (v := .slice none 0 0) hb (by simp [go_sem]) (by simp [go_sem])
  have p3 := zcw (b := w.heap.size) (o := 3) (v := .slice none 0 0) hb (by simp [go_sem]) (by simp [go_sem])
  have p4 := zcw (b := w.heap.size) (o := 4) (v := .int .i64 0) hb (by simp [go_sem]) (by simp [go_sem])
  have j0 := za5 (b := w.heap.size) (o := 0) (v := .int .i64 0) hb (by simp [go_sem])
  have j1 := za5 (b := w.heap.size) (o := 1) (v := .slice none 0 0) hb (by simp [go_sem])
  have j2 := za5 (b := w.heap.size) (o := 2) (v := .slice none 0 0) hb (by simp [go_sem])
  have j3 := za5 (b := w.heap.size) (o := 3) (v := .slice none 0 0) hb (by simp [go_sem])
  have j4 := za5 (b := w.heap.size) (o := 4) (v := .int .i64 0) hb (by simp [go_sem])
  have hb' := zbe (zbe (zbe (zbe hb))); replace op := op.below hb; clear o1 o2 hrd; go_wp2_with fail
 ·have hB : ze9 n m = true := hq.out
  have e0 : zlq (ze9 n m) n = n := by rw [hB]; rfl
  have e4 : zlq (ze9 n m) m = m := by rw [hB]; rfl
  have eP : ztv (ze9 n m) = zft := by rw [hB]; rfl
  refine bodyPost_ret (v := .tuple #[.agg #[.int .i64 n, .slice none 0 0, .slice (some ⟨w.heap.size + 1 + 1, 0, none⟩) 1 1, .slice none 0 0, .int .i64 m], .bool true]) (by simp [results, Tryz.results42, go_sem, *]) rfl ⟨.slice none 0 0, .slice (some ⟨w.heap.size + 1 + 1, 0, none⟩) 1 1, .slice none 0 0, [w.heap.size + 1 + 1, w.heap.size + 1], by rw [e0, e4, hB], ?_, ⟨by simp, fun b hb => by simp at hb; simp; omega⟩, bM⟩
  rw [eP]; have op' := op.chg (w' := _) (T := [w.heap.size]) (cS) (fun b hb hc => by simp at hb hc; omega)
  exact ⟨[w.heap.size + 1 + 1, w.heap.size + 1], [], by simp, ⟨[], [w.heap.size + 1 + 1, w.heap.size + 1], rfl, ⟨World.ownsRow_nil _ _ _ _, rfl⟩, op.chg (T := [w.heap.size]) (cS) (fun b hb hc => by simp at hb hc; omega)⟩, ⟨World.ownsRow_nil _ _ _ _, rfl⟩⟩
 ·have hB : ze9 n m = false := hq.out
  have e0 : zlq (ze9 n m) n = 0 := by rw [hB]; rfl
  have e4 : zlq (ze9 n m) m = 0 := by rw [hB]; rfl
  have eP : ztv (ze9 n m) = [] := by rw [hB]; rfl
  refine bodyPost_ret (v := .tuple #[.agg #[.int .i64 0, .slice none 0 0, .slice none 0 0, .slice none 0 0, .int .i64 0], .bool false]) (by simp [results, Tryz.results42, go_sem, *]) rfl ⟨.slice none 0 0, .slice none 0 0, .slice none 0 0, [], by rw [e0, e4, hB], ?_, zpb _ _, bM⟩
  rw [eP]; exact zud _
theorem zhp (n m : Int) (w : World) :
  Calls Tryz.prog 29 #[.int .i64 n, .int .i64 m] w (zkd n m w) := by
 go_enter Tryz.func29, Tryz.ntmps29
 go_wp2_with fail
 have o1 : (((w.alloc (.cells #[.int .i64 0, .slice none 0 0, .slice none 0 0, .slice none 0 0, .int .i64 0] 39)).alloc (.cells #[.int .i64 0] 3))).ownsRow 0 3 1 (.slice (some ⟨w.heap.size + 1, 0, none⟩) 1 1) 1 [.int .i64 0] := by
  have := zke (w := w.alloc (.cells #[.int .i64 0, .slice none 0 0, .slice none 0 0, .slice none 0 0, .int .i64 0] 39)) (base := 0) (e := 3) (size := 1) (n := 1) #[.int .i64 0] (Nat.zero_le _) (by simp [maxLen]) rfl
  simpa using this
 have o2 : (((w.alloc (.cells #[.int .i64 0, .slice none 0 0, .slice none 0 0, .slice none 0 0, .int .i64 0] 39)).alloc (.cells #[.int .i64 0] 3)).alloc (.cells #[.slice (some ⟨w.heap.size + 1, 0, none⟩) 1 1, .int .i64 2] 60)).ownsRow 0 60 2 (.slice (some ⟨w.heap.size + 1 + 1, 0, none⟩) 1 1) 1 [.slice (some ⟨w.heap.size + 1, 0, none⟩) 1 1, .int .i64 2] := by
  have := zke (w := (w.alloc (.cells #[.int .i64 0, .slice none 0 0, .slice none 0 0, .slice none 0 0, .int .i64 0] 39)).alloc (.cells #[.int .i64 0] 3)) (base := 0) (e := 60) (size := 2) (n := 1) #[.slice (some ⟨w.heap.size + 1, 0, none⟩) 1 1, .int .i64 2] (Nat.zero_le _) (by simp [maxLen]) rfl
  simpa using this
 have op := (zxj _ (o1.alloc _) o2).below ((Below.refl _ _).alloc (Nat.le_refl _) (.cells #[.int .i64 n, .slice none 0 0, .slice (some ⟨w.heap.size + 1 + 1, 0, none⟩) 1 1, .slice none 0 0, .int .i64 m] 39)); have hrd : zak _ (.slice none 0 0) (.slice (some ⟨w.heap.size + 1 + 1, 0, none⟩) 1 1) (.slice none 0 0) [] zft [] := ⟨⟨RdS.of_own (World.ownsRow_nil _ 0 0 _), op.rd⟩, RdS.of_own (World.ownsRow_nil _ 0 0 _)⟩; refine twoB (za3 n m _ _ _ [] zft [] _ hrd) (fun w1 hq hb => ?_) (fun w1 hq hb => ?_)
 all_goals
  have hz := hb.size
  simp at hz
  have c0 := za5 (b := w.heap.size + 1 + 1 + 1) (o := 0) (v := .int .i64 n) hb (by simp [go_sem])
  have c1 := za5 (b := w.heap.size + 1 + 1 + 1) (o := 1) (v := .slice none 0 0) hb (by simp [go_sem])
  have c2 := za5 (b := w.heap.size + 1 + 1 + 1) (o := 2) (v := .slice (some ⟨w.heap.size + 1 + 1, 0, none⟩) 1 1) hb (by simp [go_sem])
  have c3 := za5 (b := w.heap.size + 1 + 1 + 1) (o := 3) (v := .slice none 0 0) hb (by simp [go_sem])
  have c4 := za5 (b := w.heap.size + 1 + 1 + 1) (o := 4) (v := .int .i64 m) hb (by simp [go_sem])
  have p0 := zcw (b := w.heap.size) (o := 0) (v := .int .i64 0) hb (by simp [go_sem]) (by simp [go_sem])
  have p1 := zcw (b := w.heap.size) (o := 1) (v := .slice none 0 0) hb (by simp [go_sem]) (by simp [go_sem])
  have p2 := zcw (b := w.heap.size) (o := 2) (v := .slice none 0 0) hb (by simp [go_sem]) (by simp [go_sem])
  have p3 := zcw (b := w.heap.size) (o := 3) (v := .slice none 0 0) hb (by simp [go_sem]) (by simp [go_sem])
  have p4 := zcw (b := w.heap.size) (o := 4) (v := .int .i64 0) hb (by simp [go_sem]) (by simp [go_sem])
  have j0 := za5 (b := w.heap.size) (o := 0) (v := .int .i64 0) hb (by simp [go_sem])
  have j1 := za5 (b := w.heap.size) (o := 1) (v := .slice none 0 0) hb (by simp [go_sem])
  have j2 := za5 (b := w.heap.size) (o := 2) (v := .slice none 0 0) hb (by simp [go_sem])
  have j3 := za5 (b := w.heap.size) (o := 3) (v := .slice none 0 0) hb (by simp [go_sem])
  have j4 := za5 (b := w.heap.size) (o := 4) (v := .int .i64 0) hb (by simp [go_sem])
  have hb' := zbe (zbe (zbe (zbe hb))); replace op := op.below hb; clear o1 o2 hrd; go_wp2_with fail
 ·have hB : ze9 n m = true := hq.out
  have e0 : zlq (ze9 n m) n = n := by rw [hB]; rfl
  have e4 : zlq (ze9 n m) m = m := by rw [hB]; rfl
  have eP : ztv (ze9 n m) = zft := by rw [hB]; rfl
  refine bodyPost_ret (v := .tuple #[.agg #[.int .i64 n, .slice none 0 0, .slice (some ⟨w.heap.size + 1 + 1, 0, none⟩) 1 1, .slice none 0 0, .int .i64 m], .bool true]) (by simp [results, Tryz.results29, go_sem, *]) rfl ⟨.slice none 0 0, .slice (some ⟨w.heap.size + 1 + 1, 0, none⟩) 1 1, .slice none 0 0, [w.heap.size + 1 + 1, w.heap.size + 1], by rw [e0, e4, hB], ?_, ⟨by simp, fun b hb => by simp at hb; simp; omega⟩, bM⟩
  rw [eP]; have op' := op.chg (w' := _) (T := [w.heap.size]) (cS) (fun b hb hc => by simp at hb hc; omega)
  exact ⟨[w.heap.size + 1 + 1, w.heap.size + 1], [], by simp, ⟨[], [w.heap.size + 1 + 1, w.heap.size + 1], rfl, ⟨World.ownsRow_nil _ _ _ _, rfl⟩, op.chg (T := [w.heap.size]) (cS) (fun b hb hc => by simp at hb hc; omega)⟩, ⟨World.ownsRow_nil _ _ _ _, rfl⟩⟩
 ·have hB : ze9 n m = false := hq.out
  have e0 : zlq (ze9 n m) n = 0 := by rw [hB]; rfl
  have e4 : zlq (ze9 n m) m = 0 := by rw [hB]; rfl
  have eP : ztv (ze9 n m) = [] := by rw [hB]; rfl
  refine bodyPost_ret (v := .tuple #[.agg #[.int .i64 0, .slice none 0 0, .slice none 0 0, .slice none 0 0, .int .i64 0], .bool false]) (by simp [results, Tryz.results29, go_sem, *]) rfl ⟨.slice none 0 0, .slice none 0 0, .slice none 0 0, [], by rw [e0, e4, hB], ?_, zpb _ _, bM⟩
  rw [eP]; exact zud _
theorem zz2 : ze9 3 60 = true := by decide
def zwm (w : World) (e : Ending) (w' : World) : Prop :=
 ∃ x1 x2 x3 S, e = .returned (.tuple #[.agg #[.int .i64 3, x1, x2, x3, .int .i64 60], .bool true]) /\ zai w' S x1 x2 x3 [] zft [] /\ zbc w.heap.size w' S /\ Below w.heap.size w w'
theorem zov {w w' : World} {e : Ending} (h : zkd 3 60 w e w') : zwm w e w' := by
 unfold zkd at h; rw [zz2] at h; exact h
def zmg (w : World) (e : Ending) (w' : World) : Prop :=
 ∃ x1 x2 x3 S, e = .returned (.agg #[.int .i64 3, x1, x2, x3, .int .i64 60]) /\ zai w' S x1 x2 x3 [] zft [] /\ zbc w.heap.size w' S /\ Below w.heap.size w w'
theorem zgl (w : World) : Calls Tryz.prog 19 #[] w (zmg w) := by
 have hcon := fun W => (zhk 3 60 W).mono (fun e w' h => zov h)
 have Hcon := Lib.hid hcon; clear hcon
 go_enter Tryz.func19, Tryz.ntmps19
 go_wp2_with fail; refine (Hcon.out _).mono ?_; rintro e w1 ⟨x1, x2, x3, S, rfl, ho, hf, hb⟩; obtain ⟨⟨A1, c1, e1⟩, ⟨A2, c2, e2⟩, ⟨A3, c3, e3⟩⟩ := ho.rd.forms; change x1 = .slice A1 0 c1 at e1; change x2 = .slice A2 1 c2 at e2; change x3 = .slice A3 0 c3 at e3; subst e1 e2 e3; have hz := hb.size
 simp at hz
 have p0 := zcw (b := w.heap.size) (o := 0) (v := .int .i64 0) hb (by simp [go_sem]) (by simp [go_sem])
 have p1 := zcw (b := w.heap.size) (o := 1) (v := .slice none 0 0) hb (by simp [go_sem]) (by simp [go_sem])
 have p2 := zcw (b := w.heap.size) (o := 2) (v := .slice none 0 0) hb (by simp [go_sem]) (by simp [go_sem])
 have p3 := zcw (b := w.heap.size) (o := 3) (v := .slice none 0 0) hb (by simp [go_sem]) (by simp [go_sem])
 have p4 := zcw (b := w.heap.size) (o := 4) (v := .int .i64 0) hb (by simp [go_sem]) (by simp [go_sem])
 have j0 := za5 (b := w.heap.size) (o := 0) (v := .int .i64 0) hb (by simp [go_sem])
 have j1 := za5 (b := w.heap.size) (o := 1) (v := .slice none 0 0) hb (by simp [go_sem])
 have j2 := za5 (b := w.heap.size) (o := 2) (v := .slice none 0 0) hb (by simp [go_sem])
 have j3 := za5 (b := w.heap.size) (o := 3) (v := .slice none 0 0) hb (by simp [go_sem])
 have j4 := za5 (b := w.heap.size) (o := 4) (v := .int .i64 0) hb (by simp [go_sem])
 have hb' := zbe hb; replace p0 := zc3 (.cells #[.int .i64 3, .slice A1 0 c1, .slice A2 1 c2, .slice A3 0 c3, .int .i64 60] 39) j0 p0; replace j0 := za8 (.cells #[.int .i64 3, .slice A1 0 c1, .slice A2 1 c2, .slice A3 0 c3, .int .i64 60] 39) j0; replace p1 := zc3 (.cells #[.int .i64 3, .slice A1 0 c1, .slice A2 1 c2, .slice A3 0 c3, .int .i64 60] 39) j1 p1; replace j1 := za8 (.cells #[.int .i64 3, .slice A1 0 c1, .slice A2 1 c2, .slice A3 0 c3, .int .i64 60] 39) j1; replace p2 := zc3 (.cells #[.int .i64 3, .slice A1 0 c1, .slice A2 1 c2, .slice A3 0 c3, .int .i64 60] 39) j2 p2; replace j2 := za8 (.cells #[.int .i64 3, .slice A1 0 c1, .slice A2 1 c2, .slice A3 0 c3, .int .i64 60] 39) j2; replace p3 := zc3 (.cells #[.int .i64 3, .slice A1 0 c1, .slice A2 1 c2, .slice A3 0 c3, .int .i64 60] 39) j3 p3; replace j3 := za8 (.cells #[.int .i64 3, .slice A1 0 c1, .slice A2 1 c2, .slice A3 0 c3, .int .i64 60] 39) j3
 replace p4 := zc3 (.cells #[.int .i64 3, .slice A1 0 c1, .slice A2 1 c2, .slice A3 0 c3, .int .i64 60] 39) j4 p4; replace j4 := za8 (.cells #[.int .i64 3, .slice A1 0 c1, .slice A2 1 c2, .slice A3 0 c3, .int .i64 60] 39) j4; go_wp2_with fail; clear Hcon; refine bodyPost_ret (v := .agg #[.int .i64 3, .slice A1 0 c1, .slice A2 1 c2, .slice A3 0 c3, .int .i64 60]) (by simp [results, Tryz.results19, go_sem, *]) rfl ⟨_, _, _, S, rfl, ?_, ?_, bM⟩
 ·exact ((ho.below ((Below.refl _ _).alloc (Nat.le_refl _) _)).chg (T := [w.heap.size]) (cS) (fun b hb hc => by have := hf.2 b hb; simp at hc this; omega))
 ·exact zaa hf (by simp) (by simp)
theorem zgi (w : World) : Calls Tryz.prog 12 #[] w (zmg w) := by
 have hcon := fun W => (zhp 3 60 W).mono (fun e w' h => zov h)
 have Hcon := Lib.hid hcon; clear hcon
 go_enter Tryz.func12, Tryz.ntmps12
 go_wp2_with fail; refine (Hcon.out _).mono ?_; rintro e w1 ⟨x1, x2, x3, S, rfl, ho, hf, hb⟩; obtain ⟨⟨A1, c1, e1⟩, ⟨A2, c2, e2⟩, ⟨A3, c3, e3⟩⟩ := ho.rd.forms; change x1 = .slice A1 0 c1 at e1; change x2 = .slice A2 1 c2 at e2; change x3 = .slice A3 0 c3 at e3; subst e1 e2 e3; have hz := hb.size
 simp at hz
 have p0 := zcw (b := w.heap.size) (o := 0) (v := .int .i64 0) hb (by simp [go_sem]) (by simp [go_sem])
 have p1 := zcw (b := w.heap.size) (o := 1) (v := .slice none 0 0) hb (by simp [go_sem]) (by simp [go_sem])
 have p2 := zcw (b := w.heap.size) (o := 2) (v := .slice none 0 0) hb (by simp [go_sem]) (by simp [go_sem])
 have p3 := zcw (b := w.heap.size) (o := 3) (v := .slice none 0 0) hb (by simp [go_sem]) (by simp [go_sem])
 have p4 := zcw (b := w.heap.size) (o := 4) (v := .int .i64 0) hb (by simp [go_sem]) (by simp [go_sem])
 have j0 := za5 (b := w.heap.size) (o := 0) (v := .int .i64 0) hb (by simp [go_sem])
 have j1 := za5 (b := w.heap.size) (o := 1) (v := .slice none 0 0) hb (by simp [go_sem])
 have j2 := za5 (b := w.heap.size) (o := 2) (v := .slice none 0 0) hb (by simp [go_sem])
 have j3 := za5 (b := w.heap.size) (o := 3) (v := .slice none 0 0) hb (by simp [go_sem])
 have j4 := za5 (b := w.heap.size) (o := 4) (v := .int .i64 0) hb (by simp [go_sem])
 have hb' := zbe hb; replace p0 := zc3 (.cells #[.int .i64 3, .slice A1 0 c1, .slice A2 1 c2, .slice A3 0 c3, .int .i64 60] 39) j0 p0; replace j0 := za8 (.cells #[.int .i64 3, .slice A1 0 c1, .slice A2 1 c2, .slice A3 0 c3, .int .i64 60] 39) j0; replace p1 := zc3 (.cells #[.int .i64 3, .slice A1 0 c1, .slice A2 1 c2, .slice A3 0 c3, .int .i64 60] 39) j1 p1; replace j1 := za8 (.cells #[.int .i64 3, .slice A1 0 c1, .slice A2 1 c2, .slice A3 0 c3, .int .i64 60] 39) j1; replace p2 := zc3 (.cells #[.int .i64 3, .slice A1 0 c1, .slice A2 1 c2, .slice A3 0 c3, .int .i64 60] 39) j2 p2; replace j2 := za8 (.cells #[.int .i64 3, .slice A1 0 c1, .slice A2 1 c2, .slice A3 0 c3, .int .i64 60] 39) j2; replace p3 := zc3 (.cells #[.int .i64 3, .slice A1 0 c1, .slice A2 1 c2, .slice A3 0 c3, .int .i64 60] 39) j3 p3; replace j3 := za8 (.cells #[.int .i64 3, .slice A1 0 c1, .slice A2 1 c2, .slice A3 0 c3, .int .i64 60] 39) j3
 replace p4 := zc3 (.cells #[.int .i64 3, .slice A1 0 c1, .slice A2 1 c2, .slice A3 0 c3, .int .i64 60] 39) j4 p4; replace j4 := za8 (.cells #[.int .i64 3, .slice A1 0 c1, .slice A2 1 c2, .slice A3 0 c3, .int .i64 60] 39) j4; go_wp2_with fail; clear Hcon; refine bodyPost_ret (v := .agg #[.int .i64 3, .slice A1 0 c1, .slice A2 1 c2, .slice A3 0 c3, .int .i64 60]) (by simp [results, Tryz.results12, go_sem, *]) rfl ⟨_, _, _, S, rfl, ?_, ?_, bM⟩
 ·exact ((ho.below ((Below.refl _ _).alloc (Nat.le_refl _) _)).chg (T := [w.heap.size]) (cS) (fun b hb hc => by have := hf.2 b hb; simp at hc this; omega))
 ·exact zaa hf (by simp) (by simp)
theorem zn2 {l : List Int} {a b : Int} (h : zbn l a b = true) : l.Pairwise (· < ·) /\ ∀ x ∈ l, a <= x /\ x <= b := by
 rw [zbn, Bool.and_eq_true] at h; exact ⟨zgg _ h.1, fun x hx => zbg.1 (List.all_eq_true.1 h.2 x hx)⟩
theorem zed {l : List Int} {m : Nat} (h : zbn l 0 m = true) : l.length <= m + 1 := by
 obtain ⟨h1, h2⟩ := zn2 h
 have hm : (l.map Int.toNat).Nodup := by
  rw [List.nodup_iff_pairwise_ne, List.pairwise_map]; refine List.Pairwise.imp_of_mem ?_ h1; intro a b ha hb hab e; have := h2 a ha; have := h2 b hb
  omega
 have hsub : l.map Int.toNat ⊆ List.range (m + 1) := by
  intro x hx; obtain ⟨a, ha, rfl⟩ := List.mem_map.1 hx; have := h2 a ha
  simp; omega
 have := List.Nodup.length_le_of_subset hm hsub
 simpa using this
theorem zhc {pl : List RPl} (h : zbt pl = true) : pl.length <= 6 /\ 1 <= pl.length /\ zdy pl <= 48 := by
 rw [zbt, Bool.and_eq_true] at h; have h6 := zbg.1 h.2
 have hs : (pl.map (fun r : RPl => r.1.length)).sum <= pl.length * 7 := by
  have hall := List.all_eq_true.1 h.1; clear h h6
  induction pl with
  | nil => simp
  | cons p pl ih =>
   have h1 := hall p List.mem_cons_self; rw [zc1, Bool.and_eq_true] at h1; have h2 := zed (m := 6) h1.1; have h3 := ih (fun x hx => hall x (List.mem_cons_of_mem _ hx))
   rw [List.map_cons, List.sum_cons, List.length_cons, Nat.add_mul]
   omega
 unfold zdy
 omega
theorem zld {n : Int} {cs : List zad} {pl : List RPl} (h : za7 n cs pl = true) : zam cs pl <= 88 := by
 rw [za7, Bool.and_eq_true] at h; have h1 := (za2 h.1).2.1; have h2 := (zhc h.2).2.2; unfold zam
 omega
/- crossings that undo each other -/
def zg2 (out : List zad) : zad := out.getD (out.length - 1) (0, false)
def zjb (out : List zad) (c : zad) : Bool := decide (0 < out.length) && (decide ((zg2 out).1 = c.1) && ((zg2 out).2 != c.2))
def zdm (out : List zad) (c : zad) : List zad := if zjb out c = true then out.take (out.length - 1) else out ++ [c]
def redF (cs : List zad) : List zad := cs.foldl zdm []
def redL (n : Int) (cs : List zad) : List zad := if zax n cs = true then redF cs else []
theorem zk2 (cs : List zad) {k : Nat} (h : k < cs.length) : redF (cs.take (k + 1)) = zdm (redF (cs.take k)) cs[k] := zbl _ _ cs h
theorem zpk (out : List zad) (c : zad) : (zdm out c).length <= out.length + 1 := by
 unfold zdm; split
 ·rw [List.length_take]; omega
 ·simp
theorem zms (cs : List zad) (k : Nat) (hk : k <= cs.length) : (redF (cs.take k)).length <= k := by
 induction k with
 | zero => simp [redF]
 | succ k ih => rw [zk2 cs (by omega)]; have := zpk (redF (cs.take k)) cs[k]; have := ih (by omega); omega
theorem zwi (cs : List zad) : (redF cs).length <= cs.length := by
 have := zms cs cs.length (Nat.le_refl _)
 rwa [List.take_length] at this
theorem zkv (v : Value) (l : List Int) (n : Int) (w : World) (h : RdL cInt 1 w v l) :
  Calls Tryz.prog 148 #[v, .int .i64 n] w fun e w' => e = .returned (.int .i64 (idxF l n)) /\ w = w' := by
 obtain ⟨A, c, rfl, h1, h2⟩ := h.form
 go_enter Tryz.func148, Tryz.ntmps148
 go_wp2_with fail
 go_loop [9] (fun i => ∃ k : Nat, k <= l.length /\ i = .int .i64 k /\ Hid ((l.take k).all (neB n) = true)) (fun i => l.length - (intOf i).toNat)
 case atStart => exact ⟨0, Nat.zero_le _, rfl, by rfl⟩
 case round =>
  obtain ⟨k, hk, rfl, hall⟩ := hrel
  by_cases hlt : k < l.length
  ·obtain ⟨g, off, rfl, hg, hc⟩ := h.cell zat (by omega) hlt
   have k0 := hc 0 _ rfl
   simp only [Nat.add_zero, Nat.mul_one] at k0
   clear hc
   by_cases he : l[k] = n
   ·have he' : (l[k] == n) = true := by rw [beq_iff_eq]; exact he
    have He := Lib.hid he; clear he; go_wp2_with fail; go_ret; exact ⟨zim (zyy hlt hall.out He.out).symm, rfl⟩
   ·have he' : (l[k] == n) = false := by rw [beq_eq_false_iff_ne]; exact he
    have He := Lib.hid he; clear he; go_wp2_with fail; go_round
    case rel => exact ⟨k + 1, by omega, by go_num, zc0 hlt hall.out (zyh He.out)⟩
    case measure => simp [intOf]; omega
  ·go_wp2_with fail
   go_ret
   exact ⟨zim (zla (zc9 hlt hall.out)).symm, rfl⟩
theorem zeg.trans {a b c : World} (h : zeg a b) (k : zeg b c) : zeg a c := by obtain ⟨d, rfl⟩ := h; obtain ⟨d', rfl⟩ := k; exact ⟨d + d', by simp⟩
def zcg (l : List Int) (k : Nat) : List Int := (l.set k (l.getD (k + 1) 0)).set (k + 1) (l.getD k 0)
theorem zgn (l : List Int) (k : Nat) : (zcg l k).length = l.length := by simp [zcg]
theorem zg0 (a b : Int) (l : List Int) : zcg (a :: b :: l) 0 = b :: a :: l := by simp [zcg]
theorem zgx (a : Int) (l : List Int) (k : Nat) : zcg (a :: l) (k + 1) = a :: zcg l k := by simp [zcg]
theorem ziy : ∀ (l : List Int) (k : Nat), k + 1 < l.length -> (zcg l k).Perm l := by
 intro l
 induction l with
 | nil => intro k h; simp at h
 | cons a l ih =>
  intro k h
  cases k with
  | zero =>
   match l, h with
   | b :: l, _ => rw [zg0]; exact List.Perm.swap _ _ _
  | succ k => rw [zgx]; exact List.Perm.cons a (ih k (by simpa using h))
theorem zkg {l : List Int} {k : Nat} (h : k + 1 < l.length) : zcg l k = (l.set k l[k + 1]).set (k + 1) l[k] := by
 unfold zcg; rw [getD_get2 l (k + 1) h, getD_get2 l k (by omega)]
 where getD_get2 (l : List Int) (k : Nat) (hk : k < l.length) : l.getD k 0 = l[k] := by rw [List.getD_eq_getElem?_getD, List.getElem?_eq_getElem hk]; rfl
def zao (n : Nat) (cs : List zad) : List Int := cs.foldl (fun o c => zcg o c.1.toNat) (upN n)
theorem zfq (n : Nat) {cs : List zad} {k : Nat} (h : k < cs.length) : zao n (cs.take (k + 1)) = zcg (zao n (cs.take k)) cs[k].1.toNat := zbl _ _ cs h
theorem zfn (n : Nat) (cs : List zad) : (zao n cs).length = n := by
 have : ∀ (cs : List zad) (o : List Int), (cs.foldl (fun o c => zcg o c.1.toNat) o).length = o.length := by
  intro cs
  induction cs with
  | nil => intro o; rfl
  | cons c cs ih => intro o; rw [List.foldl_cons, ih, zgn]
 unfold zao; rw [this, zej]
theorem zle {n : Nat} {cs : List zad} (h : ∀ c ∈ cs, 0 <= c.1 /\ c.1 <= (n : Int) - 2) : (zao n cs).Perm (upN n) := by
 have : ∀ (cs : List zad) (o : List Int), o.length = n -> (∀ c ∈ cs, 0 <= c.1 /\ c.1 <= (n : Int) - 2) -> (cs.foldl (fun o c => zcg o c.1.toNat) o).Perm o := by
  intro cs
  induction cs with
  | nil => intro o _ _; exact .refl _
  | cons c cs ih =>
   intro o ho hc; have := hc c List.mem_cons_self; rw [List.foldl_cons]; exact (ih _ (by rw [zgn]; exact ho) (fun x hx => hc x (List.mem_cons_of_mem _ hx))).trans (ziy o _ (by omega))
 exact this cs _ (zej n) h
theorem zts (n : Nat) : (upN n).Nodup := by
 unfold upN; rw [List.nodup_iff_pairwise_ne, List.pairwise_map]; exact List.Pairwise.imp (fun hab e => hab (by omega)) (List.nodup_iff_pairwise_ne.1 List.nodup_range)
theorem ztd {n : Nat} {x : Int} : x ∈ upN n ↔ 0 <= x /\ x < n := by
 unfold upN; rw [List.mem_map]
 constructor
 ·rintro ⟨j, hj, rfl⟩
  have := List.mem_range.1 hj
  omega
 ·intro h; exact ⟨x.toNat, List.mem_range.2 (by omega), by omega⟩
theorem zl9 (n : Nat) : (upN n).Pairwise (· < ·) := by
 unfold upN; rw [List.pairwise_map]; exact List.Pairwise.imp (fun h => by omega) List.pairwise_lt_range
structure zcf (n : Nat) (l : List Int) : Prop where
 perm : l.Perm (upN n)
theorem zcf.len {n : Nat} {l : List Int} (h : zcf n l) : l.length = n := by have := h.perm.length_eq; rwa [zej] at this
theorem zcf.nodup {n : Nat} {l : List Int} (h : zcf n l) : l.Nodup := (List.Perm.nodup_iff h.perm).2 (zts n)
theorem zcf.bd {n : Nat} {l : List Int} (h : zcf n l) : ∀ x ∈ l, 0 <= x /\ x < n := fun _ hx => ztd.1 ((List.Perm.mem_iff h.perm).1 hx)
theorem zcf.swap {n : Nat} {l : List Int} (h : zcf n l) {k : Nat} (hk : k + 1 < n) : zcf n (zcg l k) := ⟨(ziy l k (by rw [h.len]; exact hk)).trans h.perm⟩
theorem zcf.order {n : Nat} {cs : List zad} (h : ∀ c ∈ cs, 0 <= c.1 /\ c.1 <= (n : Int) - 2) : zcf n (zao n cs) := ⟨zle h⟩
theorem zcf.okB {n : Nat} {l : List Int} (h : zcf n l) (hn : 1 <= n /\ n <= 7) : zd6 l = true :=
 (zfb l).2 ⟨by rw [h.len]; omega, h.nodup, fun x hx => by have := h.bd x hx; rw [h.len]; omega⟩
theorem zcf.ne {n : Nat} {l : List Int} (h : zcf n l) {i j : Nat} (hi : i < l.length) (hj : j < l.length) (hij : i ≠ j) : l[i] ≠ l[j] := by
 have hp := List.pairwise_iff_getElem.1 (List.nodup_iff_pairwise_ne.1 h.nodup)
 rcases Nat.lt_or_ge i j with h1 | h1
 ·exact hp i j hi hj h1
 ·exact fun e => hp j i hj hi (by omega) e.symm
/- inversions -/
def inv : List Int -> Nat
 | [] => 0
 | a :: l => l.countP (fun x => decide (x < a)) + inv l
theorem zwh (l : List Int) (x : Int) : inv (l ++ [x]) = inv l + l.countP (fun y => decide (x < y)) := by
 induction l with
 | nil => rfl
 | cons a l ih =>
  rw [List.cons_append, inv, inv, ih, List.countP_append, List.countP_cons, List.countP_cons, List.countP_nil]
  simp only [decide_eq_true_eq]
  omega
theorem zvi {l : List Int} {k : Nat} (h : k < l.length) : inv (l.take (k + 1)) = inv (l.take k) + (l.take k).countP (fun y => decide (l[k] < y)) := by rw [zbm l h, zwh]
theorem zrm : ∀ (l : List Int) (k : Nat) (h : k + 1 < l.length), l[k + 1] < l[k] -> inv l = inv (zcg l k) + 1 := by
 intro l
 induction l with
 | nil => intro k h; simp at h
 | cons a l ih =>
  intro k h hd
  cases k with
  | zero =>
   match l, h, hd with
   | b :: l, _, hd =>
    simp only [Nat.zero_add, List.getElem_cons_succ, List.getElem_cons_zero] at hd
    rw [zg0, inv, inv, inv, inv, List.countP_cons, List.countP_cons]
    simp only [decide_eq_true_eq]
    rw [if_pos hd, if_neg (show ¬ a < b by omega)]
    omega
  | succ k =>
   have hl : k + 1 < l.length := by simpa using h
   have h1 := ih k hl (by simpa using hd)
   rw [zgx, inv, inv, h1, List.Perm.countP_eq _ (ziy l k hl)]
   omega
theorem zu2 (l : List Int) : inv l <= l.length * l.length := by
 induction l with
 | nil => simp [inv]
 | cons a l ih =>
  rw [inv, List.length_cons]; have h1 : l.countP (fun x => decide (x < a)) <= l.length := List.countP_le_length
  have h2 : (l.length + 1) * (l.length + 1) = l.length * l.length + l.length + l.length + 1 := by rw [Nat.add_mul, Nat.mul_add]; omega
  omega
theorem zkk : ∀ l : List Int, inv l = 0 -> l.Pairwise (· <= ·) := by
 intro l
 induction l with
 | nil => intro _; exact List.Pairwise.nil
 | cons a l ih =>
  intro h; rw [inv] at h; rw [List.pairwise_cons]; refine ⟨fun x hx => ?_, ih (by omega)⟩
  have h0 : l.countP (fun x => decide (x < a)) = 0 := by omega
  rw [List.countP_eq_zero] at h0; have := h0 x hx
  simp at this
  exact this
theorem zga : ∀ l : List Int, l.Pairwise (· <= ·) -> inv l = 0 := by
 intro l
 induction l with
 | nil => intro _; rfl
 | cons a l ih =>
  intro h; rw [List.pairwise_cons] at h; rw [inv, ih h.2, Nat.add_zero, List.countP_eq_zero]; intro x hx; have := h.1 x hx
  simp; omega
theorem zcf.inv_zero {n : Nat} {l : List Int} (h : zcf n l) : inv l = 0 ↔ l = upN n := by
 constructor
 ·intro h0
  exact List.Perm.eq_of_pairwise (le := (· <= ·)) (fun a b _ _ h1 h2 => Int.le_antisymm h1 h2) (zkk l h0) ((zl9 n).imp (fun h => Int.le_of_lt h)) h.perm
 ·intro e
  rw [e]; exact zga _ ((zl9 n).imp (fun h => Int.le_of_lt h))
structure zff (l : List Int) (k : Nat) : Prop where
 lt : k + 1 < l.length
 up : ∀ j (h : j < k), l[j] < l[j + 1]
 down : l[k + 1] < l[k]
def desc : List Int -> Nat
 | [] => 0
 | a :: l => if a < l.headD 0 /\ l ≠ [] then desc l + 1 else 0
theorem zyg : ∀ (l : List Int) (k : Nat), zff l k -> desc l = k := by
 intro l
 induction l with
 | nil => intro k h; have := h.lt; simp at this
 | cons a l ih =>
  intro k h; have hlt := h.lt
  match l, hlt with
  | b :: l, hlt =>
   cases k with
   | zero =>
    have hd := h.down
    simp only [Nat.zero_add, List.getElem_cons_succ, List.getElem_cons_zero] at hd
    rw [desc, if_neg (fun e => by have h1 : a < b := e.1; omega)]
   | succ k =>
    have h0 := h.up 0 (by omega)
    simp only [Nat.zero_add, List.getElem_cons_succ, List.getElem_cons_zero] at h0
    rw [desc, if_pos ⟨h0, by simp⟩, ih k ⟨by simpa using hlt, fun j hj => by have := h.up (j + 1) (by omega); simpa using this, by have := h.down; simpa using this⟩]
theorem zx9 : ∀ (l : List Int), (∀ j (h : j + 1 < l.length), l[j] < l[j + 1]) -> inv l = 0 := by
 intro l h; refine zga l ?_
 have : l.Pairwise (· < ·) := by
  rw [List.pairwise_iff_getElem]
  have key : ∀ d i (hi : i + d + 1 < l.length), l[i] < l[i + d + 1] := by
   intro d
   induction d with
   | zero => intro i hi; exact h i hi
   | succ d ih => intro i hi; exact Int.lt_trans (ih i (by omega)) (h (i + d + 1) hi)
  intro i j hi hj hij; have := key (j - i - 1) i (by omega)
  have e : i + (j - i - 1) + 1 = j := by omega
  simp only [e] at this
  exact this
 exact this.imp (fun h => Int.le_of_lt h)
def zop : Nat -> List Int -> List Int
 | 0, _ => []
 | f + 1, l => (desc l : Int) :: zop f (zcg l (desc l))
def zdx (l : List Int) : List Int := zop (inv l) l
theorem zr5 : ∀ (f : Nat) (l : List Int), (zop f l).length = f := by
 intro f
 induction f with
 | zero => intro l; rfl
 | succ f ih => intro l; rw [zop, List.length_cons, ih]
theorem zfg (l : List Int) : (zdx l).length = inv l := zr5 _ _
theorem zpw {l : List Int} {k : Nat} (h : zff l k) : zdx l = (k : Int) :: zdx (zcg l k) := by
 have hi := zrm l k h.lt h.down; unfold zdx; rw [hi, zop, zyg l k h]
theorem zpg {l : List Int} (h : inv l = 0) : zdx l = [] := by unfold zdx; rw [h]; rfl
def zdj (n : Int) (cs : List zad) : List zad := if zax n cs = true then (zdx (zao n.toNat cs)).map (fun k => (k, true)) else []
theorem zug {n : Nat} {cs : List zad} (h : zax n cs = true) : zdj n cs = (zdx (zao n cs)).map (fun k => (k, true)) := by unfold zdj; rw [if_pos h]; rfl
theorem zu6 {n : Int} {cs : List zad} (h : zax n cs = false) : zdj n cs = [] := by unfold zdj; rw [if_neg (by rw [h]; simp)]
theorem zn6 (n : Int) (cs : List zad) : (zdj n cs).length <= 49 := by
 unfold zdj
 split
 ·rename_i h
  have hn := (za2 h).1; rw [List.length_map, zfg]; have h1 := zu2 (zao n.toNat cs); rw [zfn] at h1; have h2 : n.toNat * n.toNat <= 7 * 7 := Nat.mul_le_mul (by omega) (by omega)
  omega
 ·simp
def cellT (ll : List (List Int)) (a b : Nat) : Int := (ll.getD a []).getD b 0
def addT (ll : List (List Int)) (a b : Nat) (s : Int) : List (List Int) := ll.set a ((ll.getD a []).set b (cellT ll a b + s))
structure Sq (n : Nat) (ll : List (List Int)) : Prop where
 len : ll.length = n
 row : ∀ r ∈ ll, r.length = n
theorem Sq.at_ {n : Nat} {ll : List (List Int)} (h : Sq n ll) {a : Nat} (ha : a < n) : ∃ h1 : a < ll.length, ll[a].length = n /\ ll.getD a [] = ll[a] := by
 have h1 : a < ll.length := by rw [h.len]; exact ha
 exact ⟨h1, h.row _ (List.getElem_mem h1), by rw [List.getD_eq_getElem?_getD, List.getElem?_eq_getElem h1]; rfl⟩
theorem zj4 {ll : List (List Int)} {a b : Nat} (h1 : a < ll.length) (h2 : b < ll[a].length) : cellT ll a b = ll[a][b] := by
 unfold cellT
 simp only [List.getD_eq_getElem?_getD]
 rw [List.getElem?_eq_getElem h1, Option.getD_some, List.getElem?_eq_getElem h2]; rfl
theorem zix {n : Nat} {ll : List (List Int)} (h : Sq n ll) {a : Nat} (ha : a < n) (b : Nat) (s : Int) : Sq n (addT ll a b s) := by
 obtain ⟨h1, h2, h3⟩ := h.at_ ha; refine ⟨by simp [addT, h.len], fun r hr => ?_⟩
 unfold addT at hr
 rcases List.mem_or_eq_of_mem_set hr with hr | rfl
 ·exact h.row r hr
 ·rw [List.length_set, h3]; exact h2
theorem zfj {n : Nat} {ll : List (List Int)} (h : Sq n ll) {a b : Nat} (ha : a < n) (hb : b < n) (s : Int) (i j : Nat) : cellT (addT ll a b s) i j = if i = a /\ j = b then cellT ll a b + s else cellT ll i j := by
 obtain ⟨h1, h2, h3⟩ := h.at_ ha; unfold addT; rw [h3]; generalize cellT ll a b + s = x; unfold cellT
 by_cases hi : i = a
 ·subst hi
  have e1 : (ll.set i (ll[i].set b x)).getD i [] = ll[i].set b x := by rw [List.getD_eq_getElem?_getD, List.getElem?_set_self h1]; rfl
  rw [e1, h3]
  by_cases hj : j = b
  ·subst hj
   rw [if_pos ⟨rfl, rfl⟩, List.getD_eq_getElem?_getD, List.getElem?_set_self (by rw [h2]; exact hb)]; rfl
  ·rw [if_neg (fun e => hj e.2), List.getD_eq_getElem?_getD, List.getElem?_set_ne (fun e => hj e.symm), List.getD_eq_getElem?_getD]
 ·have e1 : (ll.set a (ll[a].set b x)).getD i [] = ll.getD i [] := by rw [List.getD_eq_getElem?_getD, List.getElem?_set_ne (fun e => hi e.symm), List.getD_eq_getElem?_getD]
  rw [if_neg (fun e => hi e.1), e1]
theorem zww {n : Nat} {l1 l2 : List (List Int)} (h1 : Sq n l1) (h2 : Sq n l2) (h : ∀ i j, i < n -> j < n -> cellT l1 i j = cellT l2 i j) : l1 = l2 := by
 apply List.ext_getElem
 ·rw [h1.len, h2.len]
 ·intro i hi1 hi2
  have r1 := h1.row _ (List.getElem_mem hi1); have r2 := h2.row _ (List.getElem_mem hi2)
  apply List.ext_getElem
  ·rw [r1, r2]
  ·intro j hj1 hj2
   rw [<- zj4 hi1 hj1, <- zj4 hi2 hj2]; exact h i j (by rw [<- h1.len]; exact hi1) (by rw [<- r1]; exact hj1)
def zhu (n : Nat) : List (List Int) := List.replicate n (List.replicate n 0)
theorem zwq (n : Nat) : Sq n (zhu n) := ⟨by simp [zhu], fun r hr => by simp [zhu] at hr; rw [hr.2]; simp⟩
theorem zgv (n i j : Nat) : cellT (zhu n) i j = 0 := by
 unfold cellT zhu
 simp only [List.getD_eq_getElem?_getD, List.getElem?_replicate]
 split
 ·rw [Option.getD_some, List.getElem?_replicate]; split <;> rfl
 ·rfl
def zfa (f : Bool) : Int := if f = true then 1 else -1
def zdv (st : List Int × List (List Int)) (c : zad) : List Int × List (List Int) :=
 (zcg st.1 c.1.toNat, addT (addT st.2 (st.1.getD c.1.toNat 0).toNat (st.1.getD (c.1.toNat + 1) 0).toNat (zfa c.2)) (st.1.getD (c.1.toNat + 1) 0).toNat (st.1.getD c.1.toNat 0).toNat (zfa c.2))
def twSt (n : Nat) (cs : List zad) : List Int × List (List Int) := cs.foldl zdv (upN n, zhu n)
def twL (n : Nat) (cs : List zad) : List (List Int) := (twSt n cs).2
theorem zwp (n : Nat) (cs : List zad) : (twSt n cs).1 = zao n cs := by
 have : ∀ (cs : List zad) (o : List Int) (t : List (List Int)), (cs.foldl zdv (o, t)).1 = cs.foldl (fun o c => zcg o c.1.toNat) o := by
  intro cs
  induction cs with
  | nil => intro o t; rfl
  | cons c cs ih => intro o t; rw [List.foldl_cons, List.foldl_cons]; exact ih _ _
 exact this cs _ _
theorem zmx (n : Nat) {cs : List zad} {k : Nat} (h : k < cs.length) :
  twL n (cs.take (k + 1)) = addT (addT (twL n (cs.take k)) ((zao n (cs.take k)).getD cs[k].1.toNat 0).toNat ((zao n (cs.take k)).getD (cs[k].1.toNat + 1) 0).toNat (zfa cs[k].2)) ((zao n (cs.take k)).getD (cs[k].1.toNat + 1) 0).toNat ((zao n (cs.take k)).getD cs[k].1.toNat 0).toNat (zfa cs[k].2) := by
 unfold twL twSt; rw [zbl _ _ cs h]
 show (zdv (twSt n (cs.take k)) cs[k]).2 = _
 unfold zdv; rw [zwp]
 rfl
structure IsSt (n : Nat) (st : List Int × List (List Int)) : Prop where
 ord : zcf n st.1
 sq : Sq n st.2
 sym : ∀ i j, cellT st.2 i j = cellT st.2 j i
theorem IsSt.start (n : Nat) : IsSt n (upN n, zhu n) := ⟨⟨.refl _⟩, zwq n, fun i j => by rw [zgv, zgv]⟩
theorem zil {n : Nat} {o : List Int} (h : zcf n o) {k : Nat} (hk : k + 1 < n) : ∃ x y : Nat, x < n /\ y < n /\ x ≠ y /\ o.getD k 0 = (x : Int) /\ o.getD (k + 1) 0 = (y : Int) /\ (o.getD k 0).toNat = x /\ (o.getD (k + 1) 0).toNat = y := by
 have hl := h.len; have h1 : k < o.length := by omega
 have h2 : k + 1 < o.length := by omega
 have g1 : o.getD k 0 = o[k] := by rw [List.getD_eq_getElem?_getD, List.getElem?_eq_getElem h1]; rfl
 have g2 : o.getD (k + 1) 0 = o[k + 1] := by rw [List.getD_eq_getElem?_getD, List.getElem?_eq_getElem h2]; rfl
 have b1 := h.bd _ (List.getElem_mem h1); have b2 := h.bd _ (List.getElem_mem h2); have hne := h.ne h1 h2 (by omega)
 rw [g1, g2]; exact ⟨o[k].toNat, o[k + 1].toNat, by omega, by omega, fun e => hne (by omega), by omega, by omega, rfl, rfl⟩
theorem zoa {_n : Nat} {o : List Int} {t : List (List Int)} {c : zad} {x y : Nat} (hx : (o.getD c.1.toNat 0).toNat = x) (hy : (o.getD (c.1.toNat + 1) 0).toNat = y) : zdv (o, t) c = (zcg o c.1.toNat, addT (addT t x y (zfa c.2)) y x (zfa c.2)) := by
 unfold zdv; rw [hx, hy]
theorem zfc {n : Nat} {t : List (List Int)} (h : Sq n t) {x y : Nat} (hx : x < n) (hy : y < n) (hne : x ≠ y) (s : Int) (i j : Nat) : cellT (addT (addT t x y s) y x s) i j = if (i = x /\ j = y) ∨ (i = y /\ j = x) then cellT t i j + s else cellT t i j := by
 rw [zfj (zix h hx y s) hy hx, zfj h hx hy, zfj h hx hy]
 by_cases h1 : i = y /\ j = x
 ·obtain ⟨rfl, rfl⟩ := h1
  rw [if_pos ⟨rfl, rfl⟩, if_neg (fun e => hne e.2), if_pos (.inr ⟨rfl, rfl⟩)]
 ·rw [if_neg h1]
  by_cases h2 : i = x /\ j = y
  ·obtain ⟨rfl, rfl⟩ := h2
   rw [if_pos ⟨rfl, rfl⟩, if_pos (.inl ⟨rfl, rfl⟩)]
  ·rw [if_neg h2, if_neg (fun e => e.elim h2 h1)]
theorem zps {n : Nat} {t : List (List Int)} (h : Sq n t) {x y : Nat} (hx : x < n) (hy : y < n) (s : Int) : Sq n (addT (addT t x y s) y x s) := zix (zix h hx y s) hy x s
theorem zth {n : Nat} {t : List (List Int)} (h : Sq n t) {x y : Nat} (hx : x < n) (hy : y < n) (hne : x ≠ y) (s : Int) : addT (addT t x y s) y x s = addT (addT t y x s) x y s := by
 refine zww (zps h hx hy s) (zps h hy hx s) (fun i j _ _ => ?_)
 rw [zfc h hx hy hne, zfc h hy hx (fun e => hne e.symm)]
 by_cases h1 : (i = x /\ j = y) ∨ (i = y /\ j = x)
 ·rw [if_pos h1, if_pos h1.symm]
 ·rw [if_neg h1, if_neg (fun e => h1 e.symm)]
theorem IsSt.step {n : Nat} {st : List Int × List (List Int)} (h : IsSt n st) {c : zad} (hc : 0 <= c.1 /\ c.1 <= (n : Int) - 2) : IsSt n (zdv st c) := by
 obtain ⟨o, t⟩ := st; have hk : c.1.toNat + 1 < n := by omega
 obtain ⟨x, y, hx, hy, hne, _, _, e1, e2⟩ := zil h.ord hk; rw [zoa (_n := n) e1 e2]; refine ⟨h.ord.swap hk, zps h.sq hx hy _, fun i j => ?_⟩
 show cellT (addT (addT t x y _) y x _) i j = cellT (addT (addT t x y _) y x _) j i
 have hs : cellT t i j = cellT t j i := h.sym i j; rw [zfc h.sq hx hy hne, zfc h.sq hx hy hne, hs]
 by_cases h1 : (i = x /\ j = y) ∨ (i = y /\ j = x)
 ·rw [if_pos h1, if_pos (h1.symm.imp (fun e => ⟨e.2, e.1⟩) (fun e => ⟨e.2, e.1⟩))]
 ·rw [if_neg h1, if_neg (fun e => h1 (e.symm.imp (fun e => ⟨e.2, e.1⟩) (fun e => ⟨e.2, e.1⟩)))]
theorem IsSt.fold {n : Nat} : ∀ (cs : List zad) {st : List Int × List (List Int)}, IsSt n st -> (∀ c ∈ cs, 0 <= c.1 /\ c.1 <= (n : Int) - 2) -> IsSt n (cs.foldl zdv st) := by
 intro cs
 induction cs with
 | nil => intro st h _; exact h
 | cons c cs ih => intro st h hc; rw [List.foldl_cons]; exact ih (h.step (hc c List.mem_cons_self)) (fun x hx => hc x (List.mem_cons_of_mem _ hx))
theorem IsSt.tw {n : Nat} {cs : List zad} (h : ∀ c ∈ cs, 0 <= c.1 /\ c.1 <= (n : Int) - 2) : IsSt n (twSt n cs) := IsSt.fold cs (IsSt.start n) h
theorem zjg {n : Nat} {cs : List zad} (h : ∀ c ∈ cs, 0 <= c.1 /\ c.1 <= (n : Int) - 2) : Sq n (twL n cs) := (IsSt.tw h).sq
theorem zs3 {n : Nat} {cs : List zad} (h : ∀ c ∈ cs, 0 <= c.1 /\ c.1 <= (n : Int) - 2) (m : Nat) (hm : m <= cs.length) (i j : Nat) : -(m : Int) <= cellT (twL n (cs.take m)) i j /\ cellT (twL n (cs.take m)) i j <= m := by
 induction m with
 | zero =>
  show -((0 : Nat) : Int) <= cellT (zhu n) i j /\ cellT (zhu n) i j <= ((0 : Nat) : Int)
  rw [zgv]; omega
 | succ m ih =>
  have ih := ih (by omega)
  have hl : m < cs.length := by omega
  have ht : ∀ c ∈ cs.take m, 0 <= c.1 /\ c.1 <= (n : Int) - 2 := fun c hc => h c (List.mem_of_mem_take hc)
  have hc := h _ (List.getElem_mem hl); obtain ⟨x, y, hx, hy, hne, _, _, e1, e2⟩ := zil (zcf.order ht) (k := cs[m].1.toNat) (by omega)
  rw [zmx n hl, e1, e2, zfc (zjg ht) hx hy hne]; have hs : zfa cs[m].2 = 1 ∨ zfa cs[m].2 = -1 := by unfold zfa; split; exact .inl rfl; exact .inr rfl
  split
  ·rcases hs with e | e <;> rw [e] <;> omega
  ·omega
/- the pairs that are wound -/
def znn (ll : List (List Int)) (i k : Nat) : Bool := decide (i < k) && !decide (cellT ll i k = 0)
def zd5 (ll : List (List Int)) (i m : Nat) : List (List Int) := ((List.range m).filter (fun k => znn ll i k)).map (fun k : Nat => [(i : Int), (k : Int)])
def zb2 (ll : List (List Int)) (n : Nat) : Nat -> List (List Int)
 | 0 => []
 | m + 1 => zb2 ll n m ++ zd5 ll m n
def zbk (n : Nat) (cs : List zad) : List (List Int) := zb2 (twL n cs) n n
theorem zjq (ll : List (List Int)) (i : Nat) : zd5 ll i (i + 1) = [] := by
 unfold zd5; rw [List.map_eq_nil_iff, List.filter_eq_nil_iff]; intro k hk; have := List.mem_range.1 hk
 simp [znn]; omega
theorem zqu {ll : List (List Int)} {i k : Nat} (h : i < k) (hc : cellT ll i k ≠ 0) : zd5 ll i (k + 1) = zd5 ll i k ++ [[(i : Int), (k : Int)]] := by
 unfold zd5; rw [List.range_succ, List.filter_append, List.map_append]; simp [znn, h, hc]
theorem zrg {ll : List (List Int)} {i k : Nat} (hc : cellT ll i k = 0) : zd5 ll i (k + 1) = zd5 ll i k := by
 unfold zd5; rw [List.range_succ, List.filter_append, List.map_append]; simp [znn, hc]
theorem zl5 (ll : List (List Int)) (i m : Nat) : (zd5 ll i m).length <= m := by
 unfold zd5; rw [List.length_map]; exact Nat.le_trans (List.length_filter_le _ _) (by simp)
theorem zdr (ll : List (List Int)) (n m : Nat) : (zb2 ll n m).length <= m * n := by
 induction m with
 | zero => simp [zb2]
 | succ m ih => rw [zb2, List.length_append, Nat.add_mul]; have := zl5 ll m n; omega
theorem zlh {ll : List (List Int)} {n m : Nat} {r : List Int} (h : r ∈ zb2 ll n m) : ∃ i k : Nat, r = [(i : Int), (k : Int)] /\ i < m /\ i < k /\ k < n /\ cellT ll i k ≠ 0 := by
 induction m with
 | zero => simp [zb2] at h
 | succ m ih =>
  rw [zb2] at h
  rcases List.mem_append.1 h with h | h
  ·obtain ⟨i, k, e, h1, h2⟩ := ih h; exact ⟨i, k, e, by omega, h2⟩
  ·obtain ⟨k, hk, rfl⟩ := List.mem_map.1 h
   have := List.mem_filter.1 hk; have h1 := List.mem_range.1 this.1; have h2 := this.2
   simp [znn] at h2
   exact ⟨m, k, rfl, by omega, h2.1, h1, h2.2⟩
/- a full turn -/
def zfo (i : Nat) : Nat -> List zad
 | 0 => []
 | m + 1 => (((i + m + 1 : Nat) : Int), false) :: zfo i m
def upL (i : Nat) : Nat -> List zad
 | 0 => []
 | m + 1 => upL i m ++ [(((i + m + 1 : Nat) : Int), true)]
def zdk (i k : Nat) (f : Bool) : List zad := (zfo i (k - 1 - i) ++ [((i : Int), f), ((i : Int), f)]) ++ upL i (k - 1 - i)
theorem zu8 (i m : Nat) : (zfo i m).length = m := by
 induction m with
 | zero => rfl
 | succ m ih => rw [zfo, List.length_cons, ih]
theorem zpz (i m : Nat) : (upL i m).length = m := by
 induction m with
 | zero => rfl
 | succ m ih => rw [upL, List.length_append, ih]; rfl
theorem zk7 (i k : Nat) (f : Bool) : (zdk i k f).length <= 2 * k + 2 := by
 unfold zdk; rw [List.length_append, List.length_append, zu8, zpz]; simp; omega
def zc7 (l : List zad) : Nat -> List zad
 | 0 => []
 | m + 1 => zc7 l m ++ l
theorem zvc (l : List zad) (m : Nat) : (zc7 l m).length = m * l.length := by
 induction m with
 | zero => simp [zc7]
 | succ m ih => rw [zc7, List.length_append, ih, Nat.add_mul]; omega
def zzc (r : List Int) : Nat := (r.getD 0 0).toNat
def zyn (r : List Int) : Nat := (r.getD 1 0).toNat
def zkj (t : Int) : Nat := t.natAbs / 2
def unwR (ll : List (List Int)) (r : List Int) : List zad := zc7 (zdk (zzc r) (zyn r) (decide (cellT ll (zzc r) (zyn r) < 0))) (zkj (cellT ll (zzc r) (zyn r)))
def zfd (ll : List (List Int)) (ps : List (List Int)) : List zad := ps.flatMap (unwR ll)
def zm0 (n : Nat) (cs : List zad) : List zad := zfd (twL n cs) (zbk n cs)
theorem zme (ll ps : List (List Int)) {k : Nat} (h : k < ps.length) : zfd ll (ps.take (k + 1)) = zfd ll (ps.take k) ++ unwR ll ps[k] := by
 unfold zfd; rw [zbm ps h, List.flatMap_append]; simp
def unwB (n : Int) (cs : List zad) : Bool := zax n cs && decide (zao n.toNat cs = upN n.toNat)
end Go.Proofs.YtkbacoadejglkaaGreatDoor
