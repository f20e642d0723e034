/- Several texts in one: Contracts: NumbersText of both. Condition: the library's table of powers of ten reads as its text lays it. Contracts: FormatTheatre of the program. Condition: the library's table of powers of ten reads as its text lays it. Written by a program (gen_h17.py). What FnActParts wants beside the contracts: slices of a list of records, a theatre and numbers in blocks of the call's own, equal texts. Conditions: those stated. -/
import Derived.BigQuiet
import Derived.Deep.QuietTactic
import Derived.Deep.DeepCutAuto
import Derived.Test.YteidpejjjphecaaGreatDoorH5
import Derived.Test.YteidpejjjphecaaGreatDoorH15
import Derived.Test.YteidpejjjphecaaGreatDoorBdY7x8
import Derived.Test.YteidpejjjphecaaGreatDoorBdM5x8
import Derived.Test.YteidpejjjphecaaGreatDoorBdM7x3
import Derived.Test.YteidpejjjphecaaGreatDoorBdZ5x12
import Derived.Test.YteidpejjjphecaaGreatDoorBdB3x18
import Derived.Test.YteidpejjjphecaaGreatDoorBdW1x3
namespace Go.Proofs.YteidpejjjphecaaGreatDoor
open Go.RowKit
set_option maxHeartbeats 2000000 in
set_option maxRecDepth 100000 in
theorem implNumbersText_any (v : Value) (l : List Int) (w : World) (h : RdL cInt 1 w v l) (hl : l.length ≤ 20) (hbd : ∀ n ∈ l, 0 ≤ n ∧ n ≤ 1000000) (ht : TabOk w) :
  Calls Tryz.prog 20 #[v] w fun e w' => e = .returned (.string (numsT l)) ∧ Below w.heap.size w w' := by
 have h0 := h
 obtain ⟨A, c, rfl, h1, h2⟩ := h.form
 obtain ⟨i0, hi0, hz0, hz1', hz2⟩ := info_parts infoString
 have HBD := Lib.hid hbd
 clear hbd
 have hown0 := World.ownsRow_made (size := 1) (e := 9) w #[] 0 (Nat.le_refl _) (by simp [maxLen]) rfl
 have hb0 : Below w.heap.size w (w.alloc (.cells #[] 9)) := (Below.refl _ _).alloc (Nat.le_refl _) _
 have hd20 : decide ((20 : Int) < (l.length : Int)) = false := decide_eq_false (by omega)
 go_enter Tryz.func20, Tryz.ntmps20
 go_wp2_with fail
 go_loopw [3, 12] (fun q i wr => ∃ k : Nat, k ≤ l.length ∧ i = .int .i64 k ∧ wr.ownsRow w.heap.size 9 1 q k (((l.take k).map numS).flatMap cStr) ∧ (∃ g off cq, q = .slice (some ⟨g, off, none⟩) k cq ∧ g < wr.heap.size) ∧ Below w.heap.size w wr) (fun _ i _ => l.length - (intOf i).toNat)
 case atStart => exact ⟨0, Nat.zero_le _, rfl, hown0, ⟨_, _, _, rfl, by simp⟩, hb0⟩
 case round =>
  obtain ⟨k, hk, rfl, hown, ⟨gq, oq, cq, rfl, hgq⟩, hb⟩ := hrel
  clear hown0 hb0
  have hz := hb.size
  by_cases hlt : k < l.length
  ·obtain ⟨g, off, rfl, hg, hc⟩ := (h0.below hb).cell cInt_len (by omega) hlt
   have k0 := hc 0 _ rfl
   simp only [Nat.add_zero, Nat.mul_one] at k0
   clear hc
   have HB := HBD.out l[k] (List.getElem_mem hlt)
   have hlo := HB.1
   have hhi := HB.2
   have hneg : decide (l[k] < (0 : Int)) = false := decide_eq_false (by omega)
   have HN : Hid (((l.take (k + 1)).map numS).flatMap cStr = ((l.take k).map numS).flatMap cStr ++ [.string (numS l[k])]) := by
    show _ = _
    rw [take_snoc_l l hlt, List.map_append, List.flatMap_append]; rfl
   clear HB
   generalize l[k] = x at *
   go_wp2_with fail
   refine (implFormatInt_any x wr (by omega) (by omega) (ht.below hb)).mono ?_
   rintro e w1 ⟨rfl, hb1⟩
   have hown1 := own_below hown hb1
   have hbb := bl_trans hb hb1
   have hz1 := hbb.size
   clear hown hb1 k0 hlo hhi
   generalize numS x = t at *
   go_wp2_with (at_builtin; go_must (refine wpList_appendR _ rfl (.tmp 18) (.tmp 21) _ rfl w.heap.size 9 i0 _ 1 16 Tryz.underlying37 hi0 hz0 hz1' hz2 rfl (by omega) _ k (((l.take k).map numS).flatMap cStr) rfl (hown1.alloc _) _ 1 [.string t] rfl (rdS_new w1 #[.string t] _ 1 1 rfl (by simp [maxLen])) (by simp [Value.oneCell']) (by simp [maxLen]; omega) (by omega) (by simp; omega) ?_); intro v3 w3 hown3 hgr3)
   have hb3 : Below w.heap.size w w3 := (hbb.alloc hbb.size _).trans (below_own (hown1.alloc (.cells #[.string t] 9)) hgr3 (by simp; omega))
   have hat : ∃ g off cq, v3 = .slice (some ⟨g, off, none⟩) (k + 1) cq ∧ g < w3.heap.size := by
    obtain ⟨Aq, cq, rfl, _, _⟩ := (RdS.of_own hown3).form
    obtain ⟨g, off, rfl, hg, _⟩ := RdS.at_ (RdS.of_own hown3) (by omega) (by omega)
    exact ⟨_, _, _, rfl, hg⟩
   go_wp2_with fail
   go_roundw
   case rel => exact ⟨k + 1, by omega, by go_num, by rw [HN.out]; exact hown3, hat, hb3⟩
   case measure => simp [intOf]; omega
  ·obtain rfl : k = l.length := by omega
   rw [List.take_length] at hown
   have hr : RdS wr 1 (.slice (some ⟨gq, oq, none⟩) l.length cq) l.length ((l.map numS).flatMap cStr) := RdS.of_own hown
   have hcc : l.length ≤ cq ∧ cq ≤ 9223372036854775807 := by obtain ⟨A', c', e, h3, h4⟩ := hr.form; cases e; exact ⟨h3, h4⟩
   have hxs : ∀ (j : Nat) (x : ByteArray), (l.map numS)[j]? = some x → wr.cell? ⟨gq, oq + j, none⟩ = some (.string x) := fun j x hj => by
    have hjl : j < l.length := by
     have := (List.getElem?_eq_some_iff.1 hj).1
     simpa using this
    obtain ⟨g, off, e, _, hcell⟩ := RdS.at_ hr (by omega) (by omega)
    cases e
    exact hcell j _ (by rw [flat_str, List.getElem?_map, hj]; rfl)
   have hlen : (l.map numS).length = l.length := by simp
   have HJ : Hid ((⟨(Lib.join ((l.map numS).map (·.data.toList)) [44]).toArray⟩ : ByteArray) = numsT l) := by
    refine ba_ext ?_
    rw [numsT_list, join_jn, List.map_map, baL_list']
    rfl
   have hsz : (Lib.join ((l.map numS).map (·.data.toList)) [44]).length ≤ 140737488355328 := by
    have h3 := congrArg ByteArray.size HJ.out
    have h4 := numsT_size (l := l) (fun n hn => by have := HBD.out n hn; omega)
    have h5 : (⟨(Lib.join ((l.map numS).map (·.data.toList)) [44]).toArray⟩ : ByteArray).size = (Lib.join ((l.map numS).map (·.data.toList)) [44]).length := List.size_toArray
    omega
   have hJ := lib_strings_Join gq oq cq (l.map numS) ⟨#[44]⟩ wr hxs hgq (by omega) (by omega) hsz
   rw [hlen] at hJ
   have hJ2 : Calls Tryz.prog 39 #[.slice (some ⟨gq, oq, none⟩) l.length cq, .string ⟨#[44]⟩] wr fun e w' => e = .returned (.string (numsT l)) ∧ Below wr.heap.size wr w' := hJ.mono fun e w' ⟨he, hw⟩ => ⟨by rw [he]; exact congrArg (fun x => Ending.returned (.string x)) HJ.out, hw⟩
   have HJ2 := Lib.hid hJ2
   clear hJ hJ2 hsz hlen hxs hr hcc hown
   go_wp2_with (go_at_call 39; refine HJ2.out.mono ?_; rintro e w1 ⟨rfl, hb1⟩; skip)
   go_ret
   exact ⟨rfl, bl_trans hb hb1⟩
open Go.RowKit
set_option maxRecDepth 100000 in
theorem act60fi {a : Act} (h : a.tmps.size = 60) (hd : a.defers = []) : a = ⟨List.toArray (a.tmps.getD 0 undef :: a.tmps.getD 1 undef :: a.tmps.getD 2 undef :: a.tmps.getD 3 undef :: a.tmps.getD 4 undef :: a.tmps.getD 5 undef :: a.tmps.getD 6 undef :: a.tmps.getD 7 undef :: a.tmps.getD 8 undef :: a.tmps.getD 9 undef :: a.tmps.getD 10 undef :: a.tmps.getD 11 undef :: a.tmps.getD 12 undef :: a.tmps.getD 13 undef :: a.tmps.getD 14 undef :: a.tmps.getD 15 undef :: a.tmps.getD 16 undef :: a.tmps.getD 17 undef :: a.tmps.getD 18 undef :: a.tmps.getD 19 undef :: a.tmps.getD 20 undef :: a.tmps.getD 21 undef :: a.tmps.getD 22 undef :: a.tmps.getD 23 undef :: a.tmps.getD 24 undef :: a.tmps.getD 25 undef :: a.tmps.getD 26 undef :: a.tmps.getD 27 undef :: a.tmps.getD 28 undef :: a.tmps.getD 29 undef :: a.tmps.getD 30 undef :: a.tmps.getD 31 undef :: a.tmps.getD 32 undef :: a.tmps.getD 33 undef :: a.tmps.getD 34 undef :: a.tmps.getD 35 undef :: a.tmps.getD 36 undef :: a.tmps.getD 37 undef :: a.tmps.getD 38 undef :: a.tmps.getD 39 undef :: a.tmps.getD 40 undef :: a.tmps.getD 41 undef :: a.tmps.getD 42 undef :: a.tmps.getD 43 undef :: a.tmps.getD 44 undef :: a.tmps.getD 45 undef :: a.tmps.getD 46 undef :: a.tmps.getD 47 undef :: a.tmps.getD 48 undef :: a.tmps.getD 49 undef :: a.tmps.getD 50 undef :: a.tmps.getD 51 undef :: a.tmps.getD 52 undef :: a.tmps.getD 53 undef :: a.tmps.getD 54 undef :: a.tmps.getD 55 undef :: a.tmps.getD 56 undef :: a.tmps.getD 57 undef :: a.tmps.getD 58 undef :: a.tmps.getD 59 undef :: []), []⟩ := act_eq 60 h hd
def pfi (gt : Nat) (n m wy : Int) (A1 A2 A3 Aq : Option Addr) (n1 n2 n3 cq cl pll : Nat) (ds : List Int) (i : Nat) (v : Value) (_ : Nat → Nat) (w : World) : Prop :=
 match i with
 | 0 => v = .slice Aq (pll + 1) cq
 | 1 => v = .pointer (some ⟨gt, 3, none⟩)
 | 2 => v = .slice A3 ds.length n3
 | 3 => v = .string (lineS wShows ds)
 | 4 => v = .pointer (some ⟨gt, 0, none⟩)
 | 5 => v = .agg #[.int .i64 n, .slice A1 cl n1, .slice A2 pll n2]
 | 6 => v = .int .i64 wy
 | 7 => ∃ g1 : Nat, v = .slice (some ⟨g1, 0, none⟩) 1 1 ∧ RdL cInt 1 w (.slice (some ⟨g1, 0, none⟩) 1 1) [wy]
 | 8 => v = .string (lineS wWhy [wy])
 | 9 => v = .pointer (some ⟨gt, 4, none⟩)
 | 10 => v = .int .i64 m
 | 11 => ∃ g1 : Nat, v = .slice (some ⟨g1, 0, none⟩) 1 1 ∧ RdL cInt 1 w (.slice (some ⟨g1, 0, none⟩) 1 1) [m]
 | 12 => v = .string (lineS wMoney [m])
 | 13 => ∃ g1 : Nat, v = .slice (some ⟨g1, 0, none⟩) 3 3 ∧ RdS w 1 (.slice (some ⟨g1, 0, none⟩) 3 3) 3 [.string (lineS wShows ds), .string (lineS wWhy [wy]), .string (lineS wMoney [m])]
 | _ => True
set_option maxHeartbeats 8000000 in
set_option maxRecDepth 100000 in
theorem implFormatTheatre_any (n m : Int) (v1 v2 v3 : Value) (cs : List RCross) (pl : List RPl) (ds : List Int) (w : World) (h : RdTheatre w v1 v2 v3 cs pl ds) (ht : TabOk w) :
  Calls Tryz.prog 8 #[.agg #[.int .i64 n, v1, v2, v3, .int .i64 m]] w fun e w' => ∃ v, e = .returned v ∧ w'.ownsRow w.heap.size 9 1 v (fmtT n m cs pl ds).length ((fmtT n m cs pl ds).flatMap cStr) ∧ Below w.heap.size w w' := by
 obtain ⟨⟨A1, n1, rfl⟩, ⟨A2, n2, rfl⟩, ⟨A3, n3, rfl⟩⟩ := h.forms
 obtain ⟨i0, hi0, hz0, hz1', hz2⟩ := info_parts infoString
 have hbW : Below w.heap.size w (w.alloc (.cells #[.int .i64 n, .slice A1 cs.length n1, .slice A2 pl.length n2, .slice A3 ds.length n3, .int .i64 m] 30)) := (Below.refl _ _).alloc (Nat.le_refl _) _
 have Lt : Loc (w.alloc (.cells #[.int .i64 n, .slice A1 cs.length n1, .slice A2 pl.length n2, .slice A3 ds.length n3, .int .i64 m] 30)) w.heap.size [.int .i64 n, .slice A1 cs.length n1, .slice A2 pl.length n2, .slice A3 ds.length n3, .int .i64 m] := Loc.new w #[.int .i64 n, .slice A1 cs.length n1, .slice A2 pl.length n2, .slice A3 ds.length n3, .int .i64 m] 30
 have hrt := h.below hbW
 have ht1 := ht.below hbW
 go_enter Tryz.func8, Tryz.ntmps8
 go_upto_region 1 with (fail)
 obtain ⟨gt, hgt⟩ : ∃ gt, w.heap.size = gt := ⟨_, rfl⟩
 rw [hgt] at Lt ⊢
 have hgt2 : gt ≤ (w.alloc (.cells #[.int .i64 n, .slice A1 cs.length n1, .slice A2 pl.length n2, .slice A3 ds.length n3, .int .i64 m] 30)).heap.size := by simp; omega
 generalize w.alloc (.cells #[.int .i64 n, .slice A1 cs.length n1, .slice A2 pl.length n2, .slice A3 ds.length n3, .int .i64 m] 30) = W at *
 clear h ht
 have t0 := (Lt 0 _ rfl).1
 have t1 := (Lt 1 _ rfl).1
 have t2 := (Lt 2 _ rfl).1
 have t3 := (Lt 3 _ rfl).1
 have t4 := (Lt 4 _ rfl).1
 go_wp2_with fail
 refine twoB (implTheatreOk_any n m _ _ _ cs pl ds W hrt) (fun w1 hq hb1 => ?_) (fun w1 hq hb1 => ?_)
 ·have hf := fmt_ok hq.out
  obtain ⟨⟨ho7, hob⟩, ⟨hp6, hpb⟩, ⟨hd60, hdb⟩, hwy, hm⟩ := hf
  have HOB : Hid (∀ x ∈ ordR n cs, -9223372036854775808 ≤ x ∧ x ≤ 9223372036854775807) := fun x hx => by have := hob x hx; omega
  have HDB : Hid (∀ x ∈ ds, -9223372036854775808 ≤ x ∧ x ≤ 9223372036854775807) := fun x hx => by have := hdb x hx; omega
  have HPB := Lib.hid hpb
  have HFE := Lib.hid (fmtT_t hq.out)
  clear hob hdb hpb hq
  replace Lt := Lt.below hb1
  replace hrt := hrt.below hb1
  replace ht1 := ht1.below hb1
  have hbw := bl_trans hbW hb1
  clear hbW t0 t1 t2 t3 t4 hb1
  have t0 := (Lt 0 _ rfl).1
  have t1 := (Lt 1 _ rfl).1
  go_wp2_with fail
  refine (implOrderAfter_any n _ cs w1 hrt.1.1).mono ?_
  rintro e w9 ⟨v9, rfl, own9, hb9⟩
  have hr9 : RdL cInt 1 w9 v9 (ordR n cs) := RdS.of_own own9
  obtain ⟨A9, c9, rfl, _, _⟩ := hr9.form
  clear own9
  replace Lt := Lt.below hb9
  replace hrt := hrt.below hb9
  replace ht1 := ht1.below hb9
  replace hbw := bl_trans hbw hb9
  clear hb9 t0 t1
  go_wp2_with fail
  refine (lineOf_any wOrder _ (ordR n cs) w9 hr9 (by decide) (by omega) HOB.out ht1).mono ?_
  rintro e w2 ⟨rfl, hb2⟩
  replace Lt := Lt.below hb2
  replace hrt := hrt.below hb2
  replace ht1 := ht1.below hb2
  replace hbw := bl_trans hbw hb2
  have hgz : gt < w2.heap.size := World.block_lt_of_cell? w2 _ (Lt 0 _ rfl).1
  clear hb2 hr9
  obtain ⟨s0, hs0⟩ : ∃ s0, lineS wOrder (ordR n cs) = s0 := ⟨_, rfl⟩
  rw [hs0]
  have HS0 := Lib.hid hs0
  clear hs0
  have hown0 : (w2.alloc (.cells #[.string s0] 9)).ownsRow w2.heap.size 9 1 (.slice (some ⟨w2.heap.size, 0, none⟩) 1 1) 1 [.string s0] := row_all w2 #[.string s0] 1 rfl (by simp [maxLen])
  have hb0 : Below w2.heap.size w2 (w2.alloc (.cells #[.string s0] 9)) := (Below.refl _ _).alloc (Nat.le_refl _) _
  have LtA := Lt.below hb0
  have t0 := (LtA 0 _ rfl).1
  have t1 := (LtA 1 _ rfl).1
  have t2 := (LtA 2 _ rfl).1
  clear LtA
  go_wp2_with fail
  go_loopw [3, 23] (fun q i wr => ∃ k : Nat, k ≤ pl.length ∧ i = .int .i64 k ∧ wr.ownsRow w2.heap.size 9 1 q (k + 1) ((s0 :: (pl.take k).map plyT).flatMap cStr) ∧ Below w2.heap.size w2 wr) (fun _ i _ => pl.length - (intOf i).toNat)
  case atStart => exact ⟨0, Nat.zero_le _, rfl, by simpa [cStr] using hown0, hb0⟩
  case round =>
   obtain ⟨k, hk, rfl, hown, hb⟩ := hrel
   clear hown0 hb0 t0 t1 t2
   have hz := hb.size
   obtain ⟨Aq, cq, rfl, _, _⟩ := (RdS.of_own hown).form
   by_cases hlt : k < pl.length
   ·obtain ⟨g, off, u, rfl, hg, k0, k1, hru⟩ := (hrt.1.2.below hb).cell hlt
    obtain ⟨Au, cu, rfl, _, _⟩ := hru.form
    have HPR := Lib.hid (HPB.out pl[k] (List.getElem_mem hlt))
    have HSN : Hid ((s0 :: (pl.take (k + 1)).map plyT).flatMap cStr = (s0 :: (pl.take k).map plyT).flatMap cStr ++ [.string (plyT pl[k])]) := by
     show _ = _
     have e : (s0 :: (pl.take (k + 1)).map plyT) = (s0 :: (pl.take k).map plyT) ++ [plyT pl[k]] := by rw [take_snoc_l pl hlt, List.map_append]; rfl
     rw [e, List.flatMap_append]; rfl
    generalize pl[k] = r at *
    have hkl : r.1.length ≤ 7 := HPR.out.1.1
    have hfr := HPR.out.2
    have hns := numS_size r.2 (by omega)
    have HKB : Hid (∀ x ∈ r.1, 0 ≤ x ∧ x ≤ 1000000) := fun x hx => by have := HPR.out.1.2 x hx; omega
    have hkz := numsT_size (l := r.1) (fun x hx => by have := HKB.out x hx; omega)
    have hbP : Below w2.heap.size w2 (wr.alloc (.cells #[.slice Au r.1.length cu, .int .i64 r.2] 55)) := hb.alloc hb.size _
    have LP : Loc (wr.alloc (.cells #[.slice Au r.1.length cu, .int .i64 r.2] 55)) wr.heap.size [.slice Au r.1.length cu, .int .i64 r.2] := Loc.new wr #[.slice Au r.1.length cu, .int .i64 r.2] 55
    have hownP := own_below hown ((Below.refl _ _).alloc (Nat.le_refl _) _ : Below wr.heap.size wr (wr.alloc (.cells #[.slice Au r.1.length cu, .int .i64 r.2] 55)))
    have hruP := hru.below ((Below.refl _ _).alloc (Nat.le_refl _) _ : Below wr.heap.size wr (wr.alloc (.cells #[.slice Au r.1.length cu, .int .i64 r.2] 55)))
    clear HPR hown hru
    go_upto_region 7 with (fail)
    clear k0 k1 hb
    generalize wr.alloc (.cells #[.slice Au r.1.length cu, .int .i64 r.2] 55) = WP at *
    have p0 := (LP 0 _ rfl).1
    have p1 := (LP 1 _ rfl).1
    have hzP := hbP.size
    rcases Nat.eq_zero_or_pos r.1.length with hl0 | hl0
    ·have hld : decide ((0 : Int) < (r.1.length : Int)) = false := decide_eq_false (by omega)
     have hln : ¬ 0 < r.1.length := by omega
     have HKN : Hid (knowsT r.1 = wDash) := if_pos (List.length_eq_zero_iff.1 hl0)
     have hknz : wDash.size ≤ 1 := by decide
     have hownK := hownP
     have hbK := hbP
     clear hl0 hownP
     have hpn : ¬ 9223372036854775807 < 7 + (numS r.2).size := by omega
     have hps : ((⟨#[112, 108, 97, 121, 101, 114, 32]⟩ : ByteArray) ++ numS r.2).size = 7 + (numS r.2).size := by rw [ByteArray.size_append]; rfl
     have hpn2 : ¬ 9223372036854775807 < ((⟨#[112, 108, 97, 121, 101, 114, 32]⟩ : ByteArray) ++ numS r.2).size + 1 := by omega
     have hps2 : (((⟨#[112, 108, 97, 121, 101, 114, 32]⟩ : ByteArray) ++ numS r.2) ++ (⟨#[32]⟩ : ByteArray)).size = 8 + (numS r.2).size := by rw [ByteArray.size_append, hps]; show 7 + _ + 1 = _; omega
     have hpn3 : ¬ 9223372036854775807 < (((⟨#[112, 108, 97, 121, 101, 114, 32]⟩ : ByteArray) ++ numS r.2) ++ (⟨#[32]⟩ : ByteArray)).size + (wDash).size := by omega
     clear hps hps2
     go_wp2_with fail
     refine (implFormatInt_any r.2 WP (by omega) (by omega) (ht1.below hbK)).mono ?_
     rintro e w6 ⟨rfl, hb6⟩
     have hown6 := own_below hownK hb6
     have hbb6 := bl_trans hbK hb6
     have hz6 := hbb6.size
     clear hownK hbK hb6
     go_wp2_with (at_builtin; go_must (refine wpList_appendR _ rfl (.tmp 34) (.tmp 42) _ rfl w2.heap.size 9 i0 _ 1 16 Tryz.underlying37 hi0 hz0 hz1' hz2 rfl (by omega) _ (k + 1) ((s0 :: (pl.take k).map plyT).flatMap cStr) rfl (hown6.alloc _) _ 1 [.string ((((⟨#[112, 108, 97, 121, 101, 114, 32]⟩ : ByteArray) ++ numS r.2) ++ (⟨#[32]⟩ : ByteArray)) ++ wDash)] rfl (rdS_new w6 #[.string ((((⟨#[112, 108, 97, 121, 101, 114, 32]⟩ : ByteArray) ++ numS r.2) ++ (⟨#[32]⟩ : ByteArray)) ++ wDash)] _ 1 1 rfl (by simp [maxLen])) (by simp [Value.oneCell']) (by simp [maxLen]; omega) (by omega) (by simp; omega) ?_); intro v3 w3 hown3 hgr3)
     have hb3 : Below w2.heap.size w2 w3 := (hbb6.alloc hbb6.size _).trans (below_own (hown6.alloc (.cells #[.string ((((⟨#[112, 108, 97, 121, 101, 114, 32]⟩ : ByteArray) ++ numS r.2) ++ (⟨#[32]⟩ : ByteArray)) ++ wDash)] 9)) hgr3 (by simp; omega))
     go_wp2_with fail
     go_roundw
     case rel => exact ⟨k + 1, by omega, by go_num, by rw [HSN.out, show plyT r = (((⟨#[112, 108, 97, 121, 101, 114, 32]⟩ : ByteArray) ++ numS r.2) ++ (⟨#[32]⟩ : ByteArray)) ++ wDash from congrArg (fun x => ((wPlayer ++ numS r.2) ++ spc1) ++ x) HKN.out]; exact hown3, hb3⟩
     case measure => simp [intOf]; omega
    ·have hld : decide ((0 : Int) < (r.1.length : Int)) = true := decide_eq_true (by omega)
     have HKN : Hid (knowsT r.1 = numsT r.1) := if_neg (fun e => by rw [e] at hl0; simp at hl0)
     go_wp2_with fail
     refine (implNumbersText_any _ r.1 WP hruP (by omega) HKB.out (ht1.below hbP)).mono ?_
     rintro e w5 ⟨rfl, hb5⟩
     have hownK := own_below hownP hb5
     have hbK := bl_trans hbP hb5
     have hz5 := hbK.size
     replace LP := LP.below hb5
     clear p0 p1 hownP hl0 hb5
     have p0 := (LP 0 _ rfl).1
     have p1 := (LP 1 _ rfl).1
     generalize numsT r.1 = kn at *
     have hpn : ¬ 9223372036854775807 < 7 + (numS r.2).size := by omega
     have hps : ((⟨#[112, 108, 97, 121, 101, 114, 32]⟩ : ByteArray) ++ numS r.2).size = 7 + (numS r.2).size := by rw [ByteArray.size_append]; rfl
     have hpn2 : ¬ 9223372036854775807 < ((⟨#[112, 108, 97, 121, 101, 114, 32]⟩ : ByteArray) ++ numS r.2).size + 1 := by omega
     have hps2 : (((⟨#[112, 108, 97, 121, 101, 114, 32]⟩ : ByteArray) ++ numS r.2) ++ (⟨#[32]⟩ : ByteArray)).size = 8 + (numS r.2).size := by rw [ByteArray.size_append, hps]; show 7 + _ + 1 = _; omega
     have hpn3 : ¬ 9223372036854775807 < (((⟨#[112, 108, 97, 121, 101, 114, 32]⟩ : ByteArray) ++ numS r.2) ++ (⟨#[32]⟩ : ByteArray)).size + (kn).size := by omega
     clear hps hps2
     go_wp2_with fail
     refine (implFormatInt_any r.2 w5 (by omega) (by omega) (ht1.below hbK)).mono ?_
     rintro e w6 ⟨rfl, hb6⟩
     have hown6 := own_below hownK hb6
     have hbb6 := bl_trans hbK hb6
     have hz6 := hbb6.size
     clear hownK hbK hb6
     go_wp2_with (at_builtin; go_must (refine wpList_appendR _ rfl (.tmp 34) (.tmp 42) _ rfl w2.heap.size 9 i0 _ 1 16 Tryz.underlying37 hi0 hz0 hz1' hz2 rfl (by omega) _ (k + 1) ((s0 :: (pl.take k).map plyT).flatMap cStr) rfl (hown6.alloc _) _ 1 [.string ((((⟨#[112, 108, 97, 121, 101, 114, 32]⟩ : ByteArray) ++ numS r.2) ++ (⟨#[32]⟩ : ByteArray)) ++ kn)] rfl (rdS_new w6 #[.string ((((⟨#[112, 108, 97, 121, 101, 114, 32]⟩ : ByteArray) ++ numS r.2) ++ (⟨#[32]⟩ : ByteArray)) ++ kn)] _ 1 1 rfl (by simp [maxLen])) (by simp [Value.oneCell']) (by simp [maxLen]; omega) (by omega) (by simp; omega) ?_); intro v3 w3 hown3 hgr3)
     have hb3 : Below w2.heap.size w2 w3 := (hbb6.alloc hbb6.size _).trans (below_own (hown6.alloc (.cells #[.string ((((⟨#[112, 108, 97, 121, 101, 114, 32]⟩ : ByteArray) ++ numS r.2) ++ (⟨#[32]⟩ : ByteArray)) ++ kn)] 9)) hgr3 (by simp; omega))
     go_wp2_with fail
     go_roundw
     case rel => exact ⟨k + 1, by omega, by go_num, by rw [HSN.out, show plyT r = (((⟨#[112, 108, 97, 121, 101, 114, 32]⟩ : ByteArray) ++ numS r.2) ++ (⟨#[32]⟩ : ByteArray)) ++ kn from congrArg (fun x => ((wPlayer ++ numS r.2) ++ spc1) ++ x) HKN.out]; exact hown3, hb3⟩
     case measure => simp [intOf]; omega
   ·obtain rfl : k = pl.length := by omega
    rw [List.take_length] at hown
    replace Lt := Lt.below hb
    have t0 := (Lt 0 _ rfl).1
    have t1 := (Lt 1 _ rfl).1
    have t2 := (Lt 2 _ rfl).1
    have t3 := (Lt 3 _ rfl).1
    have t4 := (Lt 4 _ rfl).1
    have HT : Hid (∀ W5, Below wr.heap.size wr W5 → TabOk W5) := fun W5 h5 => (ht1.below hb).below h5
    replace hrt := hrt.below hb
    have HWY : Hid (∀ W5, RdCompany W5 (.slice A1 cs.length n1) (.slice A2 pl.length n2) cs pl → Calls Tryz.prog 22 #[.agg #[.int .i64 n, .slice A1 cs.length n1, .slice A2 pl.length n2]] W5 fun e w' => e = .returned (.int .i64 (whyF n cs pl)) ∧ Below W5.heap.size W5 w') := fun W5 h5 => implWhyNot_any n _ _ cs pl W5 h5
    have HFL : Hid (fmtT n m cs pl ds = (s0 :: pl.map plyT) ++ [lineS wShows ds, lineS wWhy [whyF n cs pl], lineS wMoney [m]]) := by
     show _ = _
     rw [HFE.out, ← HS0.out]; rfl
    clear HFE HS0 HPB HOB
    generalize whyF n cs pl = wy at *
    have hqp : pl.length ≤ 6 := hp6
    go_upto_region 12 with (fail)
    refine region_made (n := 60) 14 (by kernel_rfl) rfl (by kernel_rfl) (fun w' => Below wr.heap.size wr w') (fun _ => 0) (pfi gt n m wy A1 A2 A3 Aq n1 n2 n3 cq cs.length pl.length ds) (Below.refl _ _).drew ?_ ?_ ?_
    ·intro i v gh gh' w1 w2 hp hJ hb' hg
     match i, hp with
     | 0, hp => exact hp
     | 1, hp => exact hp
     | 2, hp => exact hp
     | 3, hp => exact hp
     | 4, hp => exact hp
     | 5, hp => exact hp
     | 6, hp => exact hp
     | 7, hp => exact (by obtain ⟨g1, h1, h2⟩ := hp; exact ⟨g1, h1, h2.below hb'⟩)
     | 8, hp => exact hp
     | 9, hp => exact hp
     | 10, hp => exact hp
     | 11, hp => exact (by obtain ⟨g1, h1, h2⟩ := hp; exact ⟨g1, h1, h2.below hb'⟩)
     | 12, hp => exact hp
     | 13, hp => exact (by obtain ⟨g1, h1, h2⟩ := hp; exact ⟨g1, h1, h2.below hb'⟩)
     | _ + 14, _ => trivial
    ·refine ⟨?_, ?_, ?_, ?_, ?_, ?_, ?_, ?_, ?_, ?_, ?_, ?_, ?_, ?_, trivial⟩
     ·intro a gh w5 hag hJ hd
      have ag3 : a.tmps.getD 3 undef = .slice Aq (pl.length + 1) cq := hag.kept 3 (by kernel_rfl)
      clear hag
      go_wp2_with fail
      exact ⟨rfl, _, rfl, rfl, hJ, Below.refl _ _⟩
     ·intro a gh w5 hag hJ hd
      have ag1 : a.tmps.getD 1 undef = .pointer (some ⟨gt, 0, none⟩) := hag.kept 1 (by kernel_rfl)
      clear hag
      go_wp2_with fail
      exact ⟨rfl, _, rfl, rfl, hJ, Below.refl _ _⟩
     ·intro a gh w5 hag hJ hd
      clear hag
      have e0 : a.tmps.getD 46 undef = .pointer (some ⟨gt, 3, none⟩) := hd 1 (by kernel_rfl) _ rfl
      have k3 := carry hJ t3
      go_wp2_with fail
      exact ⟨rfl, _, rfl, rfl, hJ, Below.refl _ _⟩
     ·intro a gh w5 hag hJ hd
      clear hag
      have e0 : a.tmps.getD 47 undef = .slice A3 ds.length n3 := hd 2 (by kernel_rfl) _ rfl
      go_wp2_with fail
      refine (lineOf_any wShows _ ds w5 (hrt.2.below hJ) (by decide) (by omega) HDB.out (HT.out w5 hJ)).mono ?_
      rintro e w6 ⟨rfl, hb6⟩
      go_wp2_with fail
      exact ⟨rfl, _, rfl, rfl, bl_trans hJ hb6, hb6⟩
     ·intro a gh w5 hag hJ hd
      have ag1 : a.tmps.getD 1 undef = .pointer (some ⟨gt, 0, none⟩) := hag.kept 1 (by kernel_rfl)
      clear hag
      go_wp2_with fail
      exact ⟨rfl, _, rfl, rfl, hJ, Below.refl _ _⟩
     ·intro a gh w5 hag hJ hd
      clear hag
      have e0 : a.tmps.getD 49 undef = .pointer (some ⟨gt, 0, none⟩) := hd 4 (by kernel_rfl) _ rfl
      have k0 := carry hJ t0
      have k1 := carry hJ t1
      have k2 := carry hJ t2
      go_wp2_with fail
      exact ⟨rfl, _, rfl, rfl, hJ, Below.refl _ _⟩
     ·intro a gh w5 hag hJ hd
      clear hag
      have e0 : a.tmps.getD 50 undef = .agg #[.int .i64 n, .slice A1 cs.length n1, .slice A2 pl.length n2] := hd 5 (by kernel_rfl) _ rfl
      go_wp2_with fail
      refine (HWY.out w5 (hrt.1.below hJ)).mono ?_
      rintro e w6 ⟨rfl, hb6⟩
      go_wp2_with fail
      exact ⟨rfl, _, rfl, rfl, bl_trans hJ hb6, hb6⟩
     ·intro a gh w5 hag hJ hd
      have e0 : a.tmps.getD 51 undef = .int .i64 wy := hd 6 (by kernel_rfl) _ rfl
      rw [act60fi hag.size hag.defers, e0]
      clear hag
      go_wp2_with fail
      exact ⟨rfl, _, rfl, ⟨w5.heap.size, rfl, rdS_new w5 #[.int .i64 wy] 3 1 1 rfl (by simp [maxLen])⟩, hJ.alloc hJ.size _, (Below.refl _ _).alloc (Nat.le_refl _) _⟩
     ·intro a gh w5 hag hJ hd
      clear hag
      obtain ⟨g1, e0, h1⟩ : ∃ g1 : Nat, a.tmps.getD 52 undef = .slice (some ⟨g1, 0, none⟩) 1 1 ∧ RdL cInt 1 w5 (.slice (some ⟨g1, 0, none⟩) 1 1) [wy] := hd 7 (by kernel_rfl) _ rfl
      go_wp2_with fail
      refine (lineOf_any wWhy _ [wy] w5 h1 (by decide) (by simp) (fun x hx => by simp at hx; subst hx; omega) (HT.out w5 hJ)).mono ?_
      rintro e w6 ⟨rfl, hb6⟩
      go_wp2_with fail
      exact ⟨rfl, _, rfl, rfl, bl_trans hJ hb6, hb6⟩
     ·intro a gh w5 hag hJ hd
      have ag1 : a.tmps.getD 1 undef = .pointer (some ⟨gt, 0, none⟩) := hag.kept 1 (by kernel_rfl)
      clear hag
      go_wp2_with fail
      exact ⟨rfl, _, rfl, rfl, hJ, Below.refl _ _⟩
     ·intro a gh w5 hag hJ hd
      clear hag
      have e0 : a.tmps.getD 54 undef = .pointer (some ⟨gt, 4, none⟩) := hd 9 (by kernel_rfl) _ rfl
      have k4 := carry hJ t4
      go_wp2_with fail
      exact ⟨rfl, _, rfl, rfl, hJ, Below.refl _ _⟩
     ·intro a gh w5 hag hJ hd
      have e0 : a.tmps.getD 55 undef = .int .i64 m := hd 10 (by kernel_rfl) _ rfl
      rw [act60fi hag.size hag.defers, e0]
      clear hag
      go_wp2_with fail
      exact ⟨rfl, _, rfl, ⟨w5.heap.size, rfl, rdS_new w5 #[.int .i64 m] 3 1 1 rfl (by simp [maxLen])⟩, hJ.alloc hJ.size _, (Below.refl _ _).alloc (Nat.le_refl _) _⟩
     ·intro a gh w5 hag hJ hd
      clear hag
      obtain ⟨g1, e0, h1⟩ : ∃ g1 : Nat, a.tmps.getD 56 undef = .slice (some ⟨g1, 0, none⟩) 1 1 ∧ RdL cInt 1 w5 (.slice (some ⟨g1, 0, none⟩) 1 1) [m] := hd 11 (by kernel_rfl) _ rfl
      go_wp2_with fail
      refine (lineOf_any wMoney _ [m] w5 h1 (by decide) (by simp) (fun x hx => by simp at hx; subst hx; omega) (HT.out w5 hJ)).mono ?_
      rintro e w6 ⟨rfl, hb6⟩
      go_wp2_with fail
      exact ⟨rfl, _, rfl, rfl, bl_trans hJ hb6, hb6⟩
     ·intro a gh w5 hag hJ hd
      have e0 : a.tmps.getD 48 undef = .string (lineS wShows ds) := hd 3 (by kernel_rfl) _ rfl
      have e1 : a.tmps.getD 53 undef = .string (lineS wWhy [wy]) := hd 8 (by kernel_rfl) _ rfl
      have e2 : a.tmps.getD 57 undef = .string (lineS wMoney [m]) := hd 12 (by kernel_rfl) _ rfl
      rw [act60fi hag.size hag.defers, e0, e1, e2]
      clear hag
      go_wp2_with fail
      exact ⟨rfl, _, rfl, ⟨w5.heap.size, rfl, rdS_new w5 #[.string (lineS wShows ds), .string (lineS wWhy [wy]), .string (lineS wMoney [m])] 9 1 3 rfl (by simp [maxLen])⟩, hJ.alloc hJ.size _, (Below.refl _ _).alloc (Nat.le_refl _) _⟩
    ·intro a gh w5 hag hJ hd
     have ag0 := hag.kept 0 (by kernel_rfl)
     have ag1 : a.tmps.getD 1 undef = .pointer (some ⟨gt, 0, none⟩) := hag.kept 1 (by kernel_rfl)
     have ag2 := hag.kept 2 (by kernel_rfl)
     have ag3 : a.tmps.getD 3 undef = .slice Aq (pl.length + 1) cq := hag.kept 3 (by kernel_rfl)
     have ag4 := hag.kept 4 (by kernel_rfl)
     have ag5 := hag.kept 5 (by kernel_rfl)
     have ag6 := hag.kept 6 (by kernel_rfl)
     have ag7 := hag.kept 7 (by kernel_rfl)
     have ag8 := hag.kept 8 (by kernel_rfl)
     have ag9 := hag.kept 9 (by kernel_rfl)
     have ag10 := hag.kept 10 (by kernel_rfl)
     have ag11 := hag.kept 11 (by kernel_rfl)
     have ag12 := hag.kept 12 (by kernel_rfl)
     have ag13 := hag.kept 13 (by kernel_rfl)
     have ag14 := hag.kept 14 (by kernel_rfl)
     have ag15 := hag.kept 15 (by kernel_rfl)
     have ag16 := hag.kept 16 (by kernel_rfl)
     have ag17 := hag.kept 17 (by kernel_rfl)
     have ag18 := hag.kept 18 (by kernel_rfl)
     have ag19 := hag.kept 19 (by kernel_rfl)
     have ag20 := hag.kept 20 (by kernel_rfl)
     have ag21 := hag.kept 21 (by kernel_rfl)
     have ag22 := hag.kept 22 (by kernel_rfl)
     have ag23 := hag.kept 23 (by kernel_rfl)
     have ag24 := hag.kept 24 (by kernel_rfl)
     have ag25 := hag.kept 25 (by kernel_rfl)
     have ag26 := hag.kept 26 (by kernel_rfl)
     have ag27 := hag.kept 27 (by kernel_rfl)
     have ag28 := hag.kept 28 (by kernel_rfl)
     have ag29 := hag.kept 29 (by kernel_rfl)
     have ag30 := hag.kept 30 (by kernel_rfl)
     have ag31 := hag.kept 31 (by kernel_rfl)
     have ag32 := hag.kept 32 (by kernel_rfl)
     have ag33 := hag.kept 33 (by kernel_rfl)
     have ag34 := hag.kept 34 (by kernel_rfl)
     have ag35 := hag.kept 35 (by kernel_rfl)
     have ag36 := hag.kept 36 (by kernel_rfl)
     have ag37 := hag.kept 37 (by kernel_rfl)
     have ag38 := hag.kept 38 (by kernel_rfl)
     have ag39 := hag.kept 39 (by kernel_rfl)
     have ag40 := hag.kept 40 (by kernel_rfl)
     have ag41 := hag.kept 41 (by kernel_rfl)
     have ag42 := hag.kept 42 (by kernel_rfl)
     have ag43 := hag.kept 43 (by kernel_rfl)
     have ag44 := hag.kept 44 (by kernel_rfl)
     have ag59 := hag.kept 59 (by kernel_rfl)
     rw [act60fi hag.size hag.defers]
     clear hag
     have e45 : a.tmps.getD 45 undef = .slice Aq (pl.length + 1) cq := hd 0 (by kernel_rfl) _ rfl
     obtain ⟨g4, e58, hsrc⟩ : ∃ g1 : Nat, a.tmps.getD 58 undef = .slice (some ⟨g1, 0, none⟩) 3 3 ∧ RdS w5 1 (.slice (some ⟨g1, 0, none⟩) 3 3) 3 [.string (lineS wShows ds), .string (lineS wWhy [wy]), .string (lineS wMoney [m])] := hd 13 (by kernel_rfl) _ rfl
     rw [ag0, ag1, ag2, ag3, ag4, ag5, ag6, ag7, ag8, ag9, ag10, ag11, ag12, ag13, ag14, ag15, ag16, ag17, ag18, ag19, ag20, ag21, ag22, ag23, ag24, ag25, ag26, ag27, ag28, ag29, ag30, ag31, ag32, ag33, ag34, ag35, ag36, ag37, ag38, ag39, ag40, ag41, ag42, ag43, ag44, ag59, e45, e58]
     change wpList _ _ _ [_, _] _ _
     have hown5 := own_below hown hJ
     have hbJ := bl_trans hb hJ
     have hz5 := hbJ.size
     clear hd
     go_wp2_with (at_builtin; go_must (refine wpList_appendR _ rfl (.tmp 45) (.tmp 58) _ rfl w2.heap.size 9 i0 _ 1 16 Tryz.underlying37 hi0 hz0 hz1' hz2 rfl (by omega) _ (pl.length + 1) ((s0 :: pl.map plyT).flatMap cStr) rfl hown5 _ 3 [.string (lineS wShows ds), .string (lineS wWhy [wy]), .string (lineS wMoney [m])] rfl hsrc (by simp [Value.oneCell']) (by simp [maxLen]; omega) (by omega) (by omega) ?_); intro v3 w3 hown3 hgr3)
     have hb3 : Below w2.heap.size w2 w3 := hbJ.trans (below_own hown5 hgr3 (by omega))
     have hfin : w3.ownsRow w2.heap.size 9 1 v3 (fmtT n m cs pl ds).length ((fmtT n m cs pl ds).flatMap cStr) := by
      have e1 : (fmtT n m cs pl ds).length = pl.length + 1 + 3 := by rw [HFL.out]; simp
      have e2 : (fmtT n m cs pl ds).flatMap cStr = (s0 :: pl.map plyT).flatMap cStr ++ [.string (lineS wShows ds), .string (lineS wWhy [wy]), .string (lineS wMoney [m])] := by rw [HFL.out, List.flatMap_append]; rfl
      rw [e1, e2]
      exact hown3
     have HFIN := Lib.hid hfin
     clear hfin hown3
     go_wp2_with fail
     go_ret
     exact ⟨_, rfl, own_mono HFIN.out (by have := hbw.size; omega), by first | exact bl_trans hbw hb3 | (rw [← hgt]; exact bl_trans hbw hb3)⟩
 ·have HFE := Lib.hid (fmtT_f (n := n) (m := m) (cs := cs) (pl := pl) (ds := ds) hq.out)
  go_wp2_with fail
  go_ret
  refine ⟨_, rfl, by rw [HFE.out]; exact World.ownsRow_nil _ _ _ _, by first | exact bl_trans hbW hb1 | (rw [← hgt]; exact bl_trans hbW hb1)⟩
open Go.RowKit
theorem rdS_takeN {w : World} {A : Option Addr} {n c p size : Nat} {xs : List Value} (h : RdS w size (.slice A n c) n xs) (hp : p ≤ n) : RdS w size (.slice A p c) p (xs.take (p * size)) := by
 obtain ⟨h1, A', c', e, h2, h3, h4⟩ := h
 injection e with e1 e2 e3
 subst e1 e3
 refine ⟨by rw [List.length_take, h1]; exact Nat.min_eq_left (Nat.mul_le_mul_right _ hp), A, c, rfl, by omega, h3, fun hpos => ?_⟩
 obtain ⟨g, off, e, hc⟩ := h4 (by omega)
 exact ⟨g, off, e, fun j u hu => hc j u (by
  rw [List.getElem?_take] at hu
  split at hu
  ·exact hu
  ·cases hu)⟩
theorem rdS_dropN {w : World} {g off n c p size : Nat} {xs : List Value} (h : RdS w size (.slice (some ⟨g, off, none⟩) n c) n xs) (hp : p ≤ n) : RdS w size (.slice (some ⟨g, off + p * size, none⟩) (n - p) (c - p)) (n - p) (xs.drop (p * size)) := by
 obtain ⟨h1, A', c', e, h2, h3, h4⟩ := h
 injection e with e1 e2 e3
 subst e1 e3
 refine ⟨by rw [List.length_drop, h1, Nat.sub_mul], _, _, rfl, by omega, by omega, fun hpos => ?_⟩
 obtain ⟨g', off', e, hc⟩ := h4 (by omega)
 injection e with e
 injection e with e1 e2
 subst e1 e2
 exact ⟨g, off + p * size, rfl, fun j u hu => by rw [Nat.add_assoc]; exact hc (p * size + j) u (by rwa [List.getElem?_drop] at hu)⟩
theorem rdS_nil {w : World} {A : Option Addr} {c size : Nat} (hc : c ≤ maxLen) : RdS w size (.slice A 0 c) 0 [] := ⟨by simp, A, c, rfl, Nat.zero_le _, hc, fun h => absurd h (by omega)⟩
theorem flat_takeN {α : Type} {f : α → List Value} {size : Nat} (hf : ∀ a, (f a).length = size) (l : List α) (m : Nat) : (l.take m).flatMap f = (l.flatMap f).take (m * size) := by
 induction l generalizing m with
 | nil => simp
 | cons a l ih =>
  cases m with
  | zero => simp
  | succ m =>
   have h1 : (f a).take ((m + 1) * size) = f a := List.take_of_length_le (by rw [hf, Nat.succ_mul]; omega)
   have h2 : (m + 1) * size - size = m * size := by rw [Nat.succ_mul]; omega
   rw [List.take_succ_cons, List.flatMap_cons, List.flatMap_cons, ih, List.take_append, hf, h1, h2]
theorem flat_dropN {α : Type} {f : α → List Value} {size : Nat} (hf : ∀ a, (f a).length = size) (l : List α) (m : Nat) : (l.drop m).flatMap f = (l.flatMap f).drop (m * size) := by
 induction l generalizing m with
 | nil => simp
 | cons a l ih =>
  cases m with
  | zero => simp
  | succ m =>
   have h1 : (f a).drop ((m + 1) * size) = [] := List.drop_eq_nil_of_le (by rw [hf, Nat.succ_mul]; omega)
   have h2 : (m + 1) * size - size = m * size := by rw [Nat.succ_mul]; omega
   rw [List.drop_succ_cons, List.flatMap_cons, ih, List.drop_append, hf, h1, h2, List.nil_append]
theorem rdL_takeN {α : Type} {f : α → List Value} {size : Nat} (hf : ∀ a, (f a).length = size) {w : World} {A : Option Addr} {c k : Nat} {l : List α} (h : RdL f size w (.slice A l.length c) l) (hk : k ≤ l.length) : RdL f size w (.slice A k c) (l.take k) := by
 unfold RdL
 rw [List.length_take, Nat.min_eq_left hk, flat_takeN hf]
 exact rdS_takeN h hk
theorem rdL_dropN {α : Type} {f : α → List Value} {size : Nat} (hf : ∀ a, (f a).length = size) {w : World} {g off c k : Nat} {l : List α} (h : RdL f size w (.slice (some ⟨g, off, none⟩) l.length c) l) (hk : k ≤ l.length) : RdL f size w (.slice (some ⟨g, off + k * size, none⟩) (l.length - k) (c - k)) (l.drop k) := by
 unfold RdL
 rw [List.length_drop, flat_dropN hf]
 exact rdS_dropN h hk
theorem rdL_slice0 {α : Type} {f : α → List Value} {size : Nat} {w : World} {A : Option Addr} {c k : Nat} {l : List α} (h : RdL f size w (.slice A l.length c) l) (hc : c = k) : RdL f size w (.slice A (l.length - k) 0) (l.drop k) := by
 obtain ⟨A', c', e, h1, h2⟩ := h.form
 injection e with e1 e2 e3
 rw [show l.length - k = 0 by omega, List.drop_eq_nil_of_le (by omega)]
 exact rdS_nil (by simp [maxLen])
theorem rdL_slice {α : Type} {f : α → List Value} {size : Nat} (hf : ∀ a, (f a).length = size) (hs : 0 < size) {w : World} {A : Option Addr} {c k : Nat} {l : List α} (h : RdL f size w (.slice A l.length c) l) (hk : k ≤ l.length) : RdL f size w (.slice (Option.map (fun x => x.add (k * size)) A) (l.length - k) (c - k)) (l.drop k) := by
 by_cases h0 : l.length - k = 0
 ·obtain ⟨A', c', e, h1, h2⟩ := h.form
  injection e with e1 e2 e3
  rw [h0, List.drop_eq_nil_of_le (by omega)]
  exact rdS_nil (by simp only [maxLen]; omega)
 ·obtain ⟨g, off, rfl, _, _⟩ := RdS.at_ h hs (by omega)
  have ha : Option.map (fun x => x.add (k * size)) (some (⟨g, off, none⟩ : Addr)) = some ⟨g, off + k * size, none⟩ := by
   rw [Option.map_some, Addr.add]
   by_cases h : k * size = 0
   ·rw [if_pos h, h]; rfl
   ·rw [if_neg h]
  rw [ha]
  exact rdL_dropN hf h hk
def OwTI (w : World) (T : List Nat) (x1 x2 x3 v : Value) (cs : List RCross) (pl : List RPl) (ds ns : List Int) : Prop := ∃ S SN, T = S ++ SN ∧ OwTheatre w S x1 x2 x3 cs pl ds ∧ OwL 3 cInt 1 w SN v ns
section
variable {w w' : World} {T : List Nat} {x1 x2 x3 v : Value} {cs : List RCross} {pl : List RPl} {ds ns : List Int}
theorem OwTI.below (h : OwTI w T x1 x2 x3 v cs pl ds ns) (hb : Below w.heap.size w w') : OwTI w' T x1 x2 x3 v cs pl ds ns := by
 obtain ⟨S, SN, e, h1, h2⟩ := h
 exact ⟨S, SN, e, h1.below hb, h2.below hb⟩
theorem OwTI.chg {U : List Nat} (h : OwTI w T x1 x2 x3 v cs pl ds ns) (hc : Chg U w w') (hn : ∀ b ∈ T, b ∉ U) : OwTI w' T x1 x2 x3 v cs pl ds ns := by
 obtain ⟨S, SN, rfl, h1, h2⟩ := h
 exact ⟨S, SN, rfl, h1.chg hc (fun b hb => hn b (List.mem_append_left _ hb)), h2.chg hc (fun b hb => hn b (List.mem_append_right _ hb))⟩
theorem OwTI.rd (h : OwTI w T x1 x2 x3 v cs pl ds ns) : RdTheatre w x1 x2 x3 cs pl ds := by obtain ⟨S, SN, _, h1, _⟩ := h; exact h1.rd
theorem OwTI.nums (h : OwTI w T x1 x2 x3 v cs pl ds ns) : RdL cInt 1 w v ns := by obtain ⟨S, SN, _, _, h2⟩ := h; exact RdS.of_own h2.1
end
set_option maxHeartbeats 2000000 in
theorem sameTexts_eq (v v' : Value) (l : List ByteArray) (w : World) (h : RdL cStr 1 w v l) (hq : RdL cStr 1 w v' l) :
  Calls Tryz.prog 9 #[v, v'] w fun e w' => e = .returned (.bool true) ∧ Below w.heap.size w w' := by
 obtain ⟨A, c, rfl, h1, h2⟩ := h.form
 obtain ⟨A', c', rfl, h1', h2'⟩ := hq.form
 go_enter Tryz.func9, Tryz.ntmps9
 go_wp2_with fail
 go_loopw [5] (fun i wr => ∃ k : Nat, k ≤ l.length ∧ i = .int .i64 k ∧ Below w.heap.size w wr) (fun i _ => l.length - (intOf i).toNat)
 case atStart => exact ⟨0, Nat.zero_le _, rfl, by (repeat' (first | exact Below.refl _ _ | refine qS ?_ _ | refine qA ?_ _ | refine qD ?_ | refine qN ?_ _ | refine qT ?_ (by assumption)))⟩
 case round =>
  obtain ⟨k, hk, rfl, hb⟩ := hrel
  have hz := hb.size
  by_cases hlt : k < l.length
  ·obtain ⟨g, off, rfl, hg, hc⟩ := (h.below hb).cell cStr_len (by omega) hlt
   have k0 := hc 0 _ rfl
   obtain ⟨g', off', rfl, hg', hc'⟩ := (hq.below hb).cell cStr_len (by omega) hlt
   have k1 := hc' 0 _ rfl
   simp only [Nat.add_zero, Nat.mul_one] at k0 k1
   clear hc hc'
   generalize l[k] = x at *
   go_wp2_with fail
   go_quiet (fail)
   go_wp2_with fail
   go_roundw
   case rel => exact ⟨k + 1, by omega, by go_num, below_drewN hb _⟩
   case measure => simp [intOf]; omega
  ·go_wp2_with fail
   go_ret
   exact ⟨rfl, by (repeat' (first | exact Below.refl _ _ | refine qS ?_ _ | refine qA ?_ _ | refine qD ?_ | refine qN ?_ _ | refine qT ?_ (by assumption)))⟩
end Go.Proofs.YteidpejjjphecaaGreatDoor
