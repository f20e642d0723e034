/- Lemmas and contracts that this claim's theorem rests on. Conditions: those that each states. -/
import Derived.Test.YtkbacoadejglkaaGreatDoorBdH5x3
import Derived.Test.YtkbacoadejglkaaGreatDoorH15
namespace Go.Proofs.YtkbacoadejglkaaGreatDoor
set_option maxHeartbeats 16000000
set_option maxRecDepth 100000
open Go.RowKit
theorem zhs (v : Value) (l : List Int) (w : World) (h : RdL cInt 1 w v l) (hl : l.length <= 20) (hbd : ∀ n ∈ l, 0 <= n /\ n <= 1000000) (ht : zhr w) :
  Calls Tryz.prog 46 #[v] w fun e w' => e = .returned (.string (zem l)) /\ Below w.heap.size w w' := by
 have h0 := h; obtain ⟨A, c, rfl, h1, h2⟩ := h.form; obtain ⟨i0, hi0, hz0, hz1', hz2⟩ := info_parts zdb; have HBD := Lib.hid hbd; clear hbd; have hown0 := World.ownsRow_made (size := 1) (e := 9) w #[] 0 (Nat.le_refl _) (by simp [maxLen]) rfl
 have hb0 : Below w.heap.size w (w.alloc (.cells #[] 9)) := (Below.refl _ _).alloc (Nat.le_refl _) _; have hd20 : decide ((20 : Int) < (l.length : Int)) = false := decide_eq_false (by omega)
 go_enter Tryz.func46, Tryz.ntmps46
 go_wp2_with fail
 go_loopw [3, 12] (fun q i wr => ∃ k : Nat, k <= l.length /\ i = .int .i64 k /\ wr.ownsRow w.heap.size 9 1 q k (((l.take k).map numS).flatMap cStr) /\ (∃ g off cq, q = .slice (some ⟨g, off, none⟩) k cq /\ g < wr.heap.size) /\ Below w.heap.size w wr) (fun _ i _ => l.length - (intOf i).toNat)
 case atStart => exact ⟨0, Nat.zero_le _, rfl, hown0, ⟨_, _, _, rfl, by simp⟩, hb0⟩
 case round =>
  obtain ⟨k, hk, rfl, hown, ⟨gq, oq, cq, rfl, hgq⟩, hb⟩ := hrel; clear hown0 hb0; have hz := hb.size
  by_cases hlt : k < l.length
  ·obtain ⟨g, off, rfl, hg, hc⟩ := (h0.below hb).cell zat (by omega) hlt
   have k0 := hc 0 _ rfl
   simp only [Nat.add_zero, Nat.mul_one] at k0
   clear hc; have HB := HBD.out l[k] (List.getElem_mem hlt); have hlo := HB.1; have hhi := HB.2; have hneg : decide (l[k] < (0 : Int)) = false := decide_eq_false (by omega)
   have HN : Hid (((l.take (k + 1)).map numS).flatMap cStr = ((l.take k).map numS).flatMap cStr ++ [.string (numS l[k])]) := by
    show _ = _
    rw [zbm l hlt, List.map_append, List.flatMap_append]; rfl
   clear HB; generalize l[k] = x at *
   go_wp2_with fail; refine (zb3 x wr (by omega) (by omega) (ht.below hb)).mono ?_
   rintro e w1 ⟨rfl, hb1⟩; have hown1 := zac hown hb1; have hbb := zab hb hb1; have hz1 := hbb.size; clear hown hb1 k0 hlo hhi; generalize numS x = t at *
   go_wp2_with (at_builtin; go_must (refine zaf _ rfl (.tmp 18) (.tmp 21) _ rfl w.heap.size 9 i0 _ 1 16 Tryz.underlying22 hi0 hz0 hz1' hz2 rfl (by omega) _ k (((l.take k).map numS).flatMap cStr) rfl (hown1.alloc _) _ 1 [.string t] rfl (zap w1 #[.string t] _ 1 1 rfl (by simp [maxLen])) (by simp [Value.oneCell']) (by simp [maxLen]; omega) (by omega) (by simp; omega) ?_); intro v3 w3 hown3 hgr3)
   have hb3 : Below w.heap.size w w3 := (hbb.alloc hbb.size _).trans (zag (hown1.alloc (.cells #[.string t] 9)) hgr3 (by simp; omega))
   have hat : ∃ g off cq, v3 = .slice (some ⟨g, off, none⟩) (k + 1) cq /\ g < w3.heap.size := by
    obtain ⟨Aq, cq, rfl, _, _⟩ := (RdS.of_own hown3).form; obtain ⟨g, off, rfl, hg, _⟩ := RdS.at_ (RdS.of_own hown3) (by omega) (by omega)
    exact ⟨_, _, _, rfl, hg⟩
   go_wp2_with fail; go_roundw
   case rel => exact ⟨k + 1, by omega, by go_num, by rw [HN.out]; exact hown3, hat, hb3⟩
   case measure => simp [intOf]; omega
  ·obtain rfl : k = l.length := by omega
   rw [List.take_length] at hown; have hr : RdS wr 1 (.slice (some ⟨gq, oq, none⟩) l.length cq) l.length ((l.map numS).flatMap cStr) := RdS.of_own hown; have hcc : l.length <= cq /\ cq <= 9223372036854775807 := by obtain ⟨A', c', e, h3, h4⟩ := hr.form; cases e; exact ⟨h3, h4⟩
   have hxs : ∀ (j : Nat) (x : ByteArray), (l.map numS)[j]? = some x -> wr.cell? ⟨gq, oq + j, none⟩ = some (.string x) := fun j x hj => by
    have hjl : j < l.length := by
     have := (List.getElem?_eq_some_iff.1 hj).1
     simpa using this
    obtain ⟨g, off, e, _, hcell⟩ := RdS.at_ hr (by omega) (by omega)
    cases e
    exact hcell j _ (by rw [zie, List.getElem?_map, hj]; rfl)
   have hlen : (l.map numS).length = l.length := by simp
   have HJ : Hid ((⟨(Lib.join ((l.map numS).map (·.data.toList)) [44]).toArray⟩ : ByteArray) = zem l) := by
    refine zfx ?_; rw [zsd, zmm, List.map_map, zou]
    rfl
   have hsz : (Lib.join ((l.map numS).map (·.data.toList)) [44]).length <= 140737488355328 := by
    have h3 := congrArg ByteArray.size HJ.out; have h4 := ziu (l := l) (fun n hn => by have := HBD.out n hn; omega)
    have h5 : (⟨(Lib.join ((l.map numS).map (·.data.toList)) [44]).toArray⟩ : ByteArray).size = (Lib.join ((l.map numS).map (·.data.toList)) [44]).length := List.size_toArray
    omega
   have hJ := lib_strings_Join gq oq cq (l.map numS) ⟨#[44]⟩ wr hxs hgq (by omega) (by omega) hsz
   rw [hlen] at hJ; have hJ2 : Calls Tryz.prog 38 #[.slice (some ⟨gq, oq, none⟩) l.length cq, .string ⟨#[44]⟩] wr fun e w' => e = .returned (.string (zem l)) /\ Below wr.heap.size wr w' := hJ.mono fun e w' ⟨he, hw⟩ => ⟨by rw [he]; exact congrArg (fun x => Ending.returned (.string x)) HJ.out, hw⟩
   have HJ2 := Lib.hid hJ2; clear hJ hJ2 hsz hlen hxs hr hcc hown
   go_wp2_with (go_at_call 38; refine HJ2.out.mono ?_; rintro e w1 ⟨rfl, hb1⟩; skip)
   go_ret
   exact ⟨rfl, zab hb hb1⟩
theorem zhd (v : Value) (l : List Int) (w : World) (h : RdL cInt 1 w v l) (hl : l.length <= 20) (hbd : ∀ n ∈ l, 0 <= n /\ n <= 1000000) :
  Calls Tryz.prog 32 #[v] w fun e w' => e = .returned (.string (zem l)) /\ Below w.heap.size w w' := by
 have h0 := h; obtain ⟨A, c, rfl, h1, h2⟩ := h.form; have HBD := Lib.hid hbd; clear hbd; have hd20 : decide ((20 : Int) < (l.length : Int)) = false := decide_eq_false (by omega)
 go_enter Tryz.func32, Tryz.ntmps32
 go_wp2_with fail
 go_loopw [3, 4] (fun q i wr => ∃ k : Nat, k <= l.length /\ i = .int .i64 k /\ q = .string (zem (l.take k)) /\ (zem (l.take k)).size <= 30 * k /\ Below w.heap.size w wr) (fun _ i _ => l.length - (intOf i).toNat)
 case atStart => exact ⟨0, Nat.zero_le _, rfl, rfl, Nat.le_refl _, Below.refl _ _⟩
 case round =>
  obtain ⟨k, hk, rfl, rfl, hq, hb⟩ := hrel
  by_cases hlt : k < l.length
  ·obtain ⟨g, off, rfl, hg, hc⟩ := (h0.below hb).cell zat (by omega) hlt
   have k0 := hc 0 _ rfl
   simp only [Nat.add_zero, Nat.mul_one] at k0
   clear hc; have HB := HBD.out l[k] (List.getElem_mem hlt); have HT1 : Hid (k = 0 -> zem (l.take (k + 1)) = numS l[k]) := fun e => by subst e; exact zqf hlt
   have HS0 : Hid (k = 0 -> zem (l.take k) = ByteArray.empty) := fun e => by subst e; rfl
   have HT2 : Hid (0 < k -> zem (l.take (k + 1)) = addC (zem (l.take k)) l[k]) := fun e => zr8 e hlt
   obtain ⟨x, hx⟩ := Int.eq_ofNat_of_zero_le HB.1; rw [hx] at HB HT1 HT2 k0; clear hx; have hxs := zb0 (x : Int) (by omega)
   have hneg : decide ((x : Int) < (0 : Int)) = false := decide_eq_false (by omega)
   have hC := Lib.hid (fun W => zaz x W (by omega))
   generalize zem (l.take k) = s at *
   have hn1 : (s ++ (⟨#[44]⟩ : ByteArray)).size = s.size + 1 := by rw [ByteArray.size_append]; rfl
   rcases Nat.eq_zero_or_pos k with h0k | h0k
   ·have hkp : decide ((0 : Int) < (k : Int)) = false := decide_eq_false (by omega)
    have hz4 : ¬ 9223372036854775807 < s.size + (numS (x : Int)).size := by omega
    have h0 := Lib.hid h0k; have hkn : ¬ 0 < k := by omega
    clear h0k; go_wp2_with fail; refine (hC.out _).mono ?_; rintro e w1 ⟨rfl, hb1⟩; go_wp2_with fail; go_roundw
    case rel =>
     have e1 : s ++ numS (x : Int) = numS (x : Int) := by rw [HS0.out h0.out]; simp
     exact ⟨k + 1, by omega, by go_num, by rw [HT1.out h0.out, e1], by rw [HT1.out h0.out]; omega, zab hb hb1⟩
    case measure => simp [intOf]; omega
   ·have hkp : decide ((0 : Int) < (k : Int)) = true := decide_eq_true (by omega)
    have hz4 : ¬ 9223372036854775807 < s.size + 1 := by omega
    have hz5 : ¬ 9223372036854775807 < (s ++ (⟨#[44]⟩ : ByteArray)).size + (numS (x : Int)).size := by omega
    have hzz : (addC s (x : Int)).size <= 30 * (k + 1) := by
     unfold addC com1; rw [ByteArray.size_append, hn1]; omega
    go_wp2_with fail; refine (hC.out _).mono ?_; rintro e w1 ⟨rfl, hb1⟩; go_wp2_with fail; go_roundw
    case rel => exact ⟨k + 1, by omega, by go_num, congrArg Value.string (HT2.out h0k).symm, by rw [HT2.out h0k]; exact hzz, zab hb hb1⟩
    case measure => simp [intOf]; omega
  ·obtain rfl : k = l.length := by omega
   rw [List.take_length]; go_wp2_with fail; go_ret; exact ⟨rfl, hb⟩
def pfi (gt : Nat) (n m wy : Int) (A1 A2 A3 Aq : Option Addr) (n1 n2 n3 cq cl pll : Nat) (ds : List Int) (i : Nat) (v : Value) (_ : Nat -> Nat) (w : World) : Prop :=
 match i with
 | 0 => v = .slice Aq (pll + 1) cq
 | 1 => v = .pointer (some ⟨gt, 3, none⟩)
 | 2 => v = .slice A3 ds.length n3
 | 3 => v = .string (za6 zcl ds)
 | 4 => v = .pointer (some ⟨gt, 0, none⟩)
 | 5 => v = .agg #[.int .i64 n, .slice A1 cl n1, .slice A2 pll n2]
 | 6 => v = .int .i64 wy
 | 7 => ∃ g1 : Nat, v = .slice (some ⟨g1, 0, none⟩) 1 1 /\ RdL cInt 1 w (.slice (some ⟨g1, 0, none⟩) 1 1) [wy]
 | 8 => v = .string (za6 wWhy [wy])
 | 9 => v = .pointer (some ⟨gt, 4, none⟩)
 | 10 => v = .int .i64 m
 | 11 => ∃ g1 : Nat, v = .slice (some ⟨g1, 0, none⟩) 1 1 /\ RdL cInt 1 w (.slice (some ⟨g1, 0, none⟩) 1 1) [m]
 | 12 => v = .string (za6 zfw [m])
 | 13 => ∃ g1 : Nat, v = .slice (some ⟨g1, 0, none⟩) 3 3 /\ RdS w 1 (.slice (some ⟨g1, 0, none⟩) 3 3) 3 [.string (za6 zcl ds), .string (za6 wWhy [wy]), .string (za6 zfw [m])]
 | _ => True
theorem zf1 (n m : Int) (v1 v2 v3 : Value) (cs : List zad) (pl : List RPl) (ds : List Int) (w : World) (h : zak w v1 v2 v3 cs pl ds) (ht : zhr w) :
  Calls Tryz.prog 21 #[.agg #[.int .i64 n, v1, v2, v3, .int .i64 m]] w fun e w' => ∃ v, e = .returned v /\ w'.ownsRow w.heap.size 9 1 v (fmtT n m cs pl ds).length ((fmtT n m cs pl ds).flatMap cStr) /\ Below w.heap.size w w' := by
 obtain ⟨⟨A1, n1, rfl⟩, ⟨A2, n2, rfl⟩, ⟨A3, n3, rfl⟩⟩ := h.forms; obtain ⟨i0, hi0, hz0, hz1', hz2⟩ := info_parts zdb; have hbW : Below w.heap.size w (w.alloc (.cells #[.int .i64 n, .slice A1 cs.length n1, .slice A2 pl.length n2, .slice A3 ds.length n3, .int .i64 m] 39)) := (Below.refl _ _).alloc (Nat.le_refl _) _; have Lt : Loc (w.alloc (.cells #[.int .i64 n, .slice A1 cs.length n1, .slice A2 pl.length n2, .slice A3 ds.length n3, .int .i64 m] 39)) w.heap.size [.int .i64 n, .slice A1 cs.length n1, .slice A2 pl.length n2, .slice A3 ds.length n3, .int .i64 m] := Loc.new w #[.int .i64 n, .slice A1 cs.length n1, .slice A2 pl.length n2, .slice A3 ds.length n3, .int .i64 m] 39; have hrt := h.below hbW; have ht1 := ht.below hbW
 go_enter Tryz.func21, Tryz.ntmps21
 go_upto_region 1 with (fail)
 obtain ⟨gt, hgt⟩ : ∃ gt, w.heap.size = gt := ⟨_, rfl⟩; rw [hgt] at Lt ⊢; have hgt2 : gt <= (w.alloc (.cells #[.int .i64 n, .slice A1 cs.length n1, .slice A2 pl.length n2, .slice A3 ds.length n3, .int .i64 m] 39)).heap.size := by simp; omega
 generalize w.alloc (.cells #[.int .i64 n, .slice A1 cs.length n1, .slice A2 pl.length n2, .slice A3 ds.length n3, .int .i64 m] 39) = W at *
 clear h ht; obtain ⟨t0, t1, t2, t3, t4⟩ := Lt.a5; go_wp2_with fail; refine twoB (zb7 n m _ _ _ cs pl ds W hrt) (fun w1 hq hb1 => ?_) (fun w1 hq hb1 => ?_)
 ·have hf := zr4 hq.out
  obtain ⟨⟨ho7, hob⟩, ⟨hp6, hpb⟩, ⟨hd60, hdb⟩, hwy, hm⟩ := hf; have HOB : Hid (∀ x ∈ ordR n cs, -9223372036854775808 <= x /\ x <= 9223372036854775807) := fun x hx => by have := hob x hx; omega
  have HDB : Hid (∀ x ∈ ds, -9223372036854775808 <= x /\ x <= 9223372036854775807) := fun x hx => by have := hdb x hx; omega
  have HPB := Lib.hid hpb; have HFE := Lib.hid (zw1 hq.out); clear hob hdb hpb hq; replace Lt := Lt.below hb1; replace hrt := hrt.below hb1; replace ht1 := ht1.below hb1; have hbw := zab hbW hb1; clear hbW t0 t1 t2 t3 t4 hb1; obtain ⟨t0, t1⟩ := Lt.a2; go_wp2_with fail; refine (zdg n _ cs w1 hrt.1.1).mono ?_; rintro e w9 ⟨v9, rfl, own9, hb9⟩; have hr9 : RdL cInt 1 w9 v9 (ordR n cs) := RdS.of_own own9; obtain ⟨A9, c9, rfl, _, _⟩ := hr9.form; clear own9; replace Lt := Lt.below hb9; replace hrt := hrt.below hb9; replace ht1 := ht1.below hb9; replace hbw := zab hbw hb9; clear hb9 t0 t1; go_wp2_with fail; refine (zcy zd3 _ (ordR n cs) w9 hr9 (by decide) (by omega) HOB.out ht1).mono ?_
  rintro e w2 ⟨rfl, hb2⟩; replace Lt := Lt.below hb2; replace hrt := hrt.below hb2; replace ht1 := ht1.below hb2; replace hbw := zab hbw hb2; have hgz : gt < w2.heap.size := World.block_lt_of_cell? w2 _ (Lt 0 _ rfl).1; clear hb2 hr9; obtain ⟨s0, hs0⟩ : ∃ s0, za6 zd3 (ordR n cs) = s0 := ⟨_, rfl⟩; rw [hs0]; have HS0 := Lib.hid hs0; clear hs0; have hown0 : (w2.alloc (.cells #[.string s0] 9)).ownsRow w2.heap.size 9 1 (.slice (some ⟨w2.heap.size, 0, none⟩) 1 1) 1 [.string s0] := zm5 w2 #[.string s0] 1 rfl (by simp [maxLen])
  have hb0 : Below w2.heap.size w2 (w2.alloc (.cells #[.string s0] 9)) := (Below.refl _ _).alloc (Nat.le_refl _) _; have LtA := Lt.below hb0; obtain ⟨t0, t1, t2⟩ := LtA.a3; clear LtA; go_wp2_with fail
  go_loopw [3, 23] (fun q i wr => ∃ k : Nat, k <= pl.length /\ i = .int .i64 k /\ wr.ownsRow w2.heap.size 9 1 q (k + 1) ((s0 :: (pl.take k).map plyT).flatMap cStr) /\ Below w2.heap.size w2 wr) (fun _ i _ => pl.length - (intOf i).toNat)
  case atStart => exact ⟨0, Nat.zero_le _, rfl, by simpa [cStr] using hown0, hb0⟩
  case round =>
   obtain ⟨k, hk, rfl, hown, hb⟩ := hrel; clear hown0 hb0 t0 t1 t2; have hz := hb.size; obtain ⟨Aq, cq, rfl, _, _⟩ := (RdS.of_own hown).form
   by_cases hlt : k < pl.length
   ·obtain ⟨g, off, u, rfl, hg, k0, k1, hru⟩ := (hrt.1.2.below hb).cell hlt
    obtain ⟨Au, cu, rfl, _, _⟩ := hru.form; have HPR := Lib.hid (HPB.out pl[k] (List.getElem_mem hlt))
    have HSN : Hid ((s0 :: (pl.take (k + 1)).map plyT).flatMap cStr = (s0 :: (pl.take k).map plyT).flatMap cStr ++ [.string (plyT pl[k])]) := by
     show _ = _
     have e : (s0 :: (pl.take (k + 1)).map plyT) = (s0 :: (pl.take k).map plyT) ++ [plyT pl[k]] := by rw [zbm pl hlt, List.map_append]; rfl
     rw [e, List.flatMap_append]; rfl
    generalize pl[k] = r at *
    have hkl : r.1.length <= 7 := HPR.out.1.1; have hfr := HPR.out.2; have hns := zb0 r.2 (by omega)
    have HKB : Hid (∀ x ∈ r.1, 0 <= x /\ x <= 1000000) := fun x hx => by have := HPR.out.1.2 x hx; omega
    have hkz := ziu (l := r.1) (fun x hx => by have := HKB.out x hx; omega)
    have hbP : Below w2.heap.size w2 (wr.alloc (.cells #[.slice Au r.1.length cu, .int .i64 r.2] 60)) := hb.alloc hb.size _; have LP : Loc (wr.alloc (.cells #[.slice Au r.1.length cu, .int .i64 r.2] 60)) wr.heap.size [.slice Au r.1.length cu, .int .i64 r.2] := Loc.new wr #[.slice Au r.1.length cu, .int .i64 r.2] 60; have hownP := zac hown ((Below.refl _ _).alloc (Nat.le_refl _) _ : Below wr.heap.size wr (wr.alloc (.cells #[.slice Au r.1.length cu, .int .i64 r.2] 60))); have hruP := hru.below ((Below.refl _ _).alloc (Nat.le_refl _) _ : Below wr.heap.size wr (wr.alloc (.cells #[.slice Au r.1.length cu, .int .i64 r.2] 60))); clear HPR hown hru
    go_upto_region 7 with (fail)
    clear k0 k1 hb; generalize wr.alloc (.cells #[.slice Au r.1.length cu, .int .i64 r.2] 60) = WP at *
    obtain ⟨p0, p1⟩ := LP.a2; have hzP := hbP.size
    rcases Nat.eq_zero_or_pos r.1.length with hl0 | hl0
    ·have hld : decide ((0 : Int) < (r.1.length : Int)) = false := decide_eq_false (by omega)
     have hln : ¬ 0 < r.1.length := by omega
     have HKN : Hid (zn3 r.1 = zhl) := if_pos (List.length_eq_zero_iff.1 hl0); have hknz : zhl.size <= 1 := by decide
     have hownK := hownP; have hbK := hbP; clear hl0 hownP; have hpn : ¬ 9223372036854775807 < 7 + (numS r.2).size := by omega
     have hps : ((⟨#[112, 108, 97, 121, 101, 114, 32]⟩ : ByteArray) ++ numS r.2).size = 7 + (numS r.2).size := by rw [ByteArray.size_append]; rfl
     have hpn2 : ¬ 9223372036854775807 < ((⟨#[112, 108, 97, 121, 101, 114, 32]⟩ : ByteArray) ++ numS r.2).size + 1 := by omega
     have hps2 : (((⟨#[112, 108, 97, 121, 101, 114, 32]⟩ : ByteArray) ++ numS r.2) ++ (⟨#[32]⟩ : ByteArray)).size = 8 + (numS r.2).size := by rw [ByteArray.size_append, hps]; show 7 + _ + 1 = _; omega
     have hpn3 : ¬ 9223372036854775807 < (((⟨#[112, 108, 97, 121, 101, 114, 32]⟩ : ByteArray) ++ numS r.2) ++ (⟨#[32]⟩ : ByteArray)).size + (zhl).size := by omega
     clear hps hps2; go_wp2_with fail; refine (zb3 r.2 WP (by omega) (by omega) (ht1.below hbK)).mono ?_
     rintro e w6 ⟨rfl, hb6⟩; have hown6 := zac hownK hb6; have hbb6 := zab hbK hb6; have hz6 := hbb6.size; clear hownK hbK hb6
     go_wp2_with (at_builtin; go_must (refine zaf _ rfl (.tmp 34) (.tmp 42) _ rfl w2.heap.size 9 i0 _ 1 16 Tryz.underlying22 hi0 hz0 hz1' hz2 rfl (by omega) _ (k + 1) ((s0 :: (pl.take k).map plyT).flatMap cStr) rfl (hown6.alloc _) _ 1 [.string ((((⟨#[112, 108, 97, 121, 101, 114, 32]⟩ : ByteArray) ++ numS r.2) ++ (⟨#[32]⟩ : ByteArray)) ++ zhl)] rfl (zap w6 #[.string ((((⟨#[112, 108, 97, 121, 101, 114, 32]⟩ : ByteArray) ++ numS r.2) ++ (⟨#[32]⟩ : ByteArray)) ++ zhl)] _ 1 1 rfl (by simp [maxLen])) (by simp [Value.oneCell']) (by simp [maxLen]; omega) (by omega) (by simp; omega) ?_); intro v3 w3 hown3 hgr3)
     have hb3 : Below w2.heap.size w2 w3 := (hbb6.alloc hbb6.size _).trans (zag (hown6.alloc (.cells #[.string ((((⟨#[112, 108, 97, 121, 101, 114, 32]⟩ : ByteArray) ++ numS r.2) ++ (⟨#[32]⟩ : ByteArray)) ++ zhl)] 9)) hgr3 (by simp; omega))
     go_wp2_with fail; go_roundw
     case rel => exact ⟨k + 1, by omega, by go_num, by rw [HSN.out, show plyT r = (((⟨#[112, 108, 97, 121, 101, 114, 32]⟩ : ByteArray) ++ numS r.2) ++ (⟨#[32]⟩ : ByteArray)) ++ zhl from congrArg (fun x => ((zlj ++ numS r.2) ++ spc1) ++ x) HKN.out]; exact hown3, hb3⟩
     case measure => simp [intOf]; omega
    ·have hld : decide ((0 : Int) < (r.1.length : Int)) = true := decide_eq_true (by omega)
     have HKN : Hid (zn3 r.1 = zem r.1) := if_neg (fun e => by rw [e] at hl0; simp at hl0)
     go_wp2_with fail; refine (zhs _ r.1 WP hruP (by omega) HKB.out (ht1.below hbP)).mono ?_
     rintro e w5 ⟨rfl, hb5⟩; have hownK := zac hownP hb5; have hbK := zab hbP hb5; have hz5 := hbK.size; replace LP := LP.below hb5; clear p0 p1 hownP hl0 hb5; obtain ⟨p0, p1⟩ := LP.a2; generalize zem r.1 = kn at *
     have hpn : ¬ 9223372036854775807 < 7 + (numS r.2).size := by omega
     have hps : ((⟨#[112, 108, 97, 121, 101, 114, 32]⟩ : ByteArray) ++ numS r.2).size = 7 + (numS r.2).size := by rw [ByteArray.size_append]; rfl
     have hpn2 : ¬ 9223372036854775807 < ((⟨#[112, 108, 97, 121, 101, 114, 32]⟩ : ByteArray) ++ numS r.2).size + 1 := by omega
     have hps2 : (((⟨#[112, 108, 97, 121, 101, 114, 32]⟩ : ByteArray) ++ numS r.2) ++ (⟨#[32]⟩ : ByteArray)).size = 8 + (numS r.2).size := by rw [ByteArray.size_append, hps]; show 7 + _ + 1 = _; omega
     have hpn3 : ¬ 9223372036854775807 < (((⟨#[112, 108, 97, 121, 101, 114, 32]⟩ : ByteArray) ++ numS r.2) ++ (⟨#[32]⟩ : ByteArray)).size + (kn).size := by omega
     clear hps hps2; go_wp2_with fail; refine (zb3 r.2 w5 (by omega) (by omega) (ht1.below hbK)).mono ?_
     rintro e w6 ⟨rfl, hb6⟩; have hown6 := zac hownK hb6; have hbb6 := zab hbK hb6; have hz6 := hbb6.size; clear hownK hbK hb6
     go_wp2_with (at_builtin; go_must (refine zaf _ rfl (.tmp 34) (.tmp 42) _ rfl w2.heap.size 9 i0 _ 1 16 Tryz.underlying22 hi0 hz0 hz1' hz2 rfl (by omega) _ (k + 1) ((s0 :: (pl.take k).map plyT).flatMap cStr) rfl (hown6.alloc _) _ 1 [.string ((((⟨#[112, 108, 97, 121, 101, 114, 32]⟩ : ByteArray) ++ numS r.2) ++ (⟨#[32]⟩ : ByteArray)) ++ kn)] rfl (zap w6 #[.string ((((⟨#[112, 108, 97, 121, 101, 114, 32]⟩ : ByteArray) ++ numS r.2) ++ (⟨#[32]⟩ : ByteArray)) ++ kn)] _ 1 1 rfl (by simp [maxLen])) (by simp [Value.oneCell']) (by simp [maxLen]; omega) (by omega) (by simp; omega) ?_); intro v3 w3 hown3 hgr3)
     have hb3 : Below w2.heap.size w2 w3 := (hbb6.alloc hbb6.size _).trans (zag (hown6.alloc (.cells #[.string ((((⟨#[112, 108, 97, 121, 101, 114, 32]⟩ : ByteArray) ++ numS r.2) ++ (⟨#[32]⟩ : ByteArray)) ++ kn)] 9)) hgr3 (by simp; omega))
     go_wp2_with fail; go_roundw
     case rel => exact ⟨k + 1, by omega, by go_num, by rw [HSN.out, show plyT r = (((⟨#[112, 108, 97, 121, 101, 114, 32]⟩ : ByteArray) ++ numS r.2) ++ (⟨#[32]⟩ : ByteArray)) ++ kn from congrArg (fun x => ((zlj ++ numS r.2) ++ spc1) ++ x) HKN.out]; exact hown3, hb3⟩
     case measure => simp [intOf]; omega
   ·obtain rfl : k = pl.length := by omega
    rw [List.take_length] at hown; replace Lt := Lt.below hb; obtain ⟨t0, t1, t2, t3, t4⟩ := Lt.a5; have HT : Hid (∀ W5, Below wr.heap.size wr W5 -> zhr W5) := fun W5 h5 => (ht1.below hb).below h5
    replace hrt := hrt.below hb; have HWY : Hid (∀ W5, zaq W5 (.slice A1 cs.length n1) (.slice A2 pl.length n2) cs pl -> Calls Tryz.prog 47 #[.agg #[.int .i64 n, .slice A1 cs.length n1, .slice A2 pl.length n2]] W5 fun e w' => e = .returned (.int .i64 (whyF n cs pl)) /\ Below W5.heap.size W5 w') := fun W5 h5 => ze5 n _ _ cs pl W5 h5
    have HFL : Hid (fmtT n m cs pl ds = (s0 :: pl.map plyT) ++ [za6 zcl ds, za6 wWhy [whyF n cs pl], za6 zfw [m]]) := by
     show _ = _
     rw [HFE.out, <- HS0.out]; rfl
    clear HFE HS0 HPB HOB; generalize whyF n cs pl = wy at *
    have hqp : pl.length <= 6 := hp6
    go_upto_region 12 with (fail)
    refine zba (n := 60) 14 (by kernel_rfl) rfl (by kernel_rfl) (fun w' => Below wr.heap.size wr w') (fun _ => 0) (pfi gt n m wy A1 A2 A3 Aq n1 n2 n3 cq cs.length pl.length ds) (Below.refl _ _).drew ?_ ?_ ?_
    ·intro i v gh gh' w1 w2 hp hJ hb' hg
     match i, hp with
     | 0, hp => exact hp
     | 1, hp => exact hp
     | 2, hp => exact hp
     | 3, hp => exact hp
     | 4, hp => exact hp
     | 5, hp => exact hp
     | 6, hp => exact hp
     | 7, hp => exact (by obtain ⟨g1, h1, h2⟩ := hp; exact ⟨g1, h1, h2.below hb'⟩)
     | 8, hp => exact hp
     | 9, hp => exact hp
     | 10, hp => exact hp
     | 11, hp => exact (by obtain ⟨g1, h1, h2⟩ := hp; exact ⟨g1, h1, h2.below hb'⟩)
     | 12, hp => exact hp
     | 13, hp => exact (by obtain ⟨g1, h1, h2⟩ := hp; exact ⟨g1, h1, h2.below hb'⟩)
     | _ + 14, _ => trivial
    ·refine ⟨?_, ?_, ?_, ?_, ?_, ?_, ?_, ?_, ?_, ?_, ?_, ?_, ?_, ?_, trivial⟩
     ·intro a gh w5 hag hJ hd
      have ag3 : a.tmps.getD 3 undef = .slice Aq (pl.length + 1) cq := hag.k 3
      clear hag; go_wp2_with fail; exact mp0 hJ rfl
     ·intro a gh w5 hag hJ hd
      have ag1 : a.tmps.getD 1 undef = .pointer (some ⟨gt, 0, none⟩) := hag.k 1
      clear hag; go_wp2_with fail; exact mp0 hJ rfl
     ·intro a gh w5 hag hJ hd
      clear hag; have e0 : a.tmps.getD 46 undef = .pointer (some ⟨gt, 3, none⟩) := hd 1 (by kernel_rfl) _ rfl
      have k3 := za5 hJ t3; go_wp2_with fail; exact mp0 hJ rfl
     ·intro a gh w5 hag hJ hd
      clear hag; have e0 : a.tmps.getD 47 undef = .slice A3 ds.length n3 := hd 2 (by kernel_rfl) _ rfl
      go_wp2_with fail; refine (zcy zcl _ ds w5 (hrt.2.below hJ) (by decide) (by omega) HDB.out (HT.out w5 hJ)).mono ?_
      rintro e w6 ⟨rfl, hb6⟩; go_wp2_with fail; exact ⟨rfl, _, rfl, rfl, zab hJ hb6, hb6⟩
     ·intro a gh w5 hag hJ hd
      have ag1 : a.tmps.getD 1 undef = .pointer (some ⟨gt, 0, none⟩) := hag.k 1
      clear hag; go_wp2_with fail; exact mp0 hJ rfl
     ·intro a gh w5 hag hJ hd
      clear hag; have e0 : a.tmps.getD 49 undef = .pointer (some ⟨gt, 0, none⟩) := hd 4 (by kernel_rfl) _ rfl
      have k0 := za5 hJ t0; have k1 := za5 hJ t1; have k2 := za5 hJ t2; go_wp2_with fail; exact mp0 hJ rfl
     ·intro a gh w5 hag hJ hd
      clear hag; have e0 : a.tmps.getD 50 undef = .agg #[.int .i64 n, .slice A1 cs.length n1, .slice A2 pl.length n2] := hd 5 (by kernel_rfl) _ rfl
      go_wp2_with fail; refine (HWY.out w5 (hrt.1.below hJ)).mono ?_; rintro e w6 ⟨rfl, hb6⟩; go_wp2_with fail; exact ⟨rfl, _, rfl, rfl, zab hJ hb6, hb6⟩
     ·intro a gh w5 hag hJ hd
      have e0 : a.tmps.getD 51 undef = .int .i64 wy := hd 6 (by kernel_rfl) _ rfl
      rw [zd1 60 hag.size hag.defers]; simp only [gd, Nat.reduceAdd, e0]; clear hag; go_wp2_with fail; exact ⟨rfl, _, rfl, ⟨w5.heap.size, rfl, zap w5 #[.int .i64 wy] 3 1 1 rfl (by simp [maxLen])⟩, hJ.alloc hJ.size _, (Below.refl _ _).alloc (Nat.le_refl _) _⟩
     ·intro a gh w5 hag hJ hd
      clear hag; obtain ⟨g1, e0, h1⟩ : ∃ g1 : Nat, a.tmps.getD 52 undef = .slice (some ⟨g1, 0, none⟩) 1 1 /\ RdL cInt 1 w5 (.slice (some ⟨g1, 0, none⟩) 1 1) [wy] := hd 7 (by kernel_rfl) _ rfl
      go_wp2_with fail; refine (zcy wWhy _ [wy] w5 h1 (by decide) (by simp) (fun x hx => by simp at hx; subst hx; omega) (HT.out w5 hJ)).mono ?_
      rintro e w6 ⟨rfl, hb6⟩; go_wp2_with fail; exact ⟨rfl, _, rfl, rfl, zab hJ hb6, hb6⟩
     ·intro a gh w5 hag hJ hd
      have ag1 : a.tmps.getD 1 undef = .pointer (some ⟨gt, 0, none⟩) := hag.k 1
      clear hag; go_wp2_with fail; exact mp0 hJ rfl
     ·intro a gh w5 hag hJ hd
      clear hag; have e0 : a.tmps.getD 54 undef = .pointer (some ⟨gt, 4, none⟩) := hd 9 (by kernel_rfl) _ rfl
      have k4 := za5 hJ t4; go_wp2_with fail; exact mp0 hJ rfl
     ·intro a gh w5 hag hJ hd
      have e0 : a.tmps.getD 55 undef = .int .i64 m := hd 10 (by kernel_rfl) _ rfl
      rw [zd1 60 hag.size hag.defers]; simp only [gd, Nat.reduceAdd, e0]; clear hag; go_wp2_with fail; exact ⟨rfl, _, rfl, ⟨w5.heap.size, rfl, zap w5 #[.int .i64 m] 3 1 1 rfl (by simp [maxLen])⟩, hJ.alloc hJ.size _, (Below.refl _ _).alloc (Nat.le_refl _) _⟩
     ·intro a gh w5 hag hJ hd
      clear hag; obtain ⟨g1, e0, h1⟩ : ∃ g1 : Nat, a.tmps.getD 56 undef = .slice (some ⟨g1, 0, none⟩) 1 1 /\ RdL cInt 1 w5 (.slice (some ⟨g1, 0, none⟩) 1 1) [m] := hd 11 (by kernel_rfl) _ rfl
      go_wp2_with fail; refine (zcy zfw _ [m] w5 h1 (by decide) (by simp) (fun x hx => by simp at hx; subst hx; omega) (HT.out w5 hJ)).mono ?_
      rintro e w6 ⟨rfl, hb6⟩; go_wp2_with fail; exact ⟨rfl, _, rfl, rfl, zab hJ hb6, hb6⟩
     ·intro a gh w5 hag hJ hd
      have e0 : a.tmps.getD 48 undef = .string (za6 zcl ds) := hd 3 (by kernel_rfl) _ rfl
      have e1 : a.tmps.getD 53 undef = .string (za6 wWhy [wy]) := hd 8 (by kernel_rfl) _ rfl
      have e2 : a.tmps.getD 57 undef = .string (za6 zfw [m]) := hd 12 (by kernel_rfl) _ rfl
      rw [zd1 60 hag.size hag.defers]; simp only [gd, Nat.reduceAdd, e0, e1, e2]; clear hag; go_wp2_with fail; exact ⟨rfl, _, rfl, ⟨w5.heap.size, rfl, zap w5 #[.string (za6 zcl ds), .string (za6 wWhy [wy]), .string (za6 zfw [m])] 9 1 3 rfl (by simp [maxLen])⟩, hJ.alloc hJ.size _, (Below.refl _ _).alloc (Nat.le_refl _) _⟩
    ·intro a gh w5 hag hJ hd
     have ag0 := hag.k 0
     have ag1 : a.tmps.getD 1 undef = .pointer (some ⟨gt, 0, none⟩) := hag.k 1
     have ag2 := hag.k 2
     have ag3 : a.tmps.getD 3 undef = .slice Aq (pl.length + 1) cq := hag.k 3
     have ag4 := hag.k 4
     have ag5 := hag.k 5
     have ag6 := hag.k 6
     have ag7 := hag.k 7
     have ag8 := hag.k 8
     have ag9 := hag.k 9
     have ag10 := hag.k 10
     have ag11 := hag.k 11
     have ag12 := hag.k 12
     have ag13 := hag.k 13
     have ag14 := hag.k 14
     have ag15 := hag.k 15
     have ag16 := hag.k 16
     have ag17 := hag.k 17
     have ag18 := hag.k 18
     have ag19 := hag.k 19
     have ag20 := hag.k 20
     have ag21 := hag.k 21
     have ag22 := hag.k 22
     have ag23 := hag.k 23
     have ag24 := hag.k 24
     have ag25 := hag.k 25
     have ag26 := hag.k 26
     have ag27 := hag.k 27
     have ag28 := hag.k 28
     have ag29 := hag.k 29
     have ag30 := hag.k 30
     have ag31 := hag.k 31
     have ag32 := hag.k 32
     have ag33 := hag.k 33
     have ag34 := hag.k 34
     have ag35 := hag.k 35
     have ag36 := hag.k 36
     have ag37 := hag.k 37
     have ag38 := hag.k 38
     have ag39 := hag.k 39
     have ag40 := hag.k 40
     have ag41 := hag.k 41
     have ag42 := hag.k 42
     have ag43 := hag.k 43
     have ag44 := hag.k 44
     have ag59 := hag.k 59
     rw [zd1 60 hag.size hag.defers]; simp only [gd, Nat.reduceAdd]; clear hag; have e45 : a.tmps.getD 45 undef = .slice Aq (pl.length + 1) cq := hd 0 (by kernel_rfl) _ rfl
     obtain ⟨g4, e58, hsrc⟩ : ∃ g1 : Nat, a.tmps.getD 58 undef = .slice (some ⟨g1, 0, none⟩) 3 3 /\ RdS w5 1 (.slice (some ⟨g1, 0, none⟩) 3 3) 3 [.string (za6 zcl ds), .string (za6 wWhy [wy]), .string (za6 zfw [m])] := hd 13 (by kernel_rfl) _ rfl
     rw [ag0, ag1, ag2, ag3, ag4, ag5, ag6, ag7, ag8, ag9, ag10, ag11, ag12, ag13, ag14, ag15, ag16, ag17, ag18, ag19, ag20, ag21, ag22, ag23, ag24, ag25, ag26, ag27, ag28, ag29, ag30, ag31, ag32, ag33, ag34, ag35, ag36, ag37, ag38, ag39, ag40, ag41, ag42, ag43, ag44, ag59, e45, e58]; change wpList _ _ _ [_, _] _ _; have hown5 := zac hown hJ; have hbJ := zab hb hJ; have hz5 := hbJ.size; clear hd
     go_wp2_with (at_builtin; go_must (refine zaf _ rfl (.tmp 45) (.tmp 58) _ rfl w2.heap.size 9 i0 _ 1 16 Tryz.underlying22 hi0 hz0 hz1' hz2 rfl (by omega) _ (pl.length + 1) ((s0 :: pl.map plyT).flatMap cStr) rfl hown5 _ 3 [.string (za6 zcl ds), .string (za6 wWhy [wy]), .string (za6 zfw [m])] rfl hsrc (by simp [Value.oneCell']) (by simp [maxLen]; omega) (by omega) (by omega) ?_); intro v3 w3 hown3 hgr3)
     have hb3 : Below w2.heap.size w2 w3 := hbJ.trans (zag hown5 hgr3 (by omega))
     have hfin : w3.ownsRow w2.heap.size 9 1 v3 (fmtT n m cs pl ds).length ((fmtT n m cs pl ds).flatMap cStr) := by
      have e1 : (fmtT n m cs pl ds).length = pl.length + 1 + 3 := by rw [HFL.out]; simp
      have e2 : (fmtT n m cs pl ds).flatMap cStr = (s0 :: pl.map plyT).flatMap cStr ++ [.string (za6 zcl ds), .string (za6 wWhy [wy]), .string (za6 zfw [m])] := by rw [HFL.out, List.flatMap_append]; rfl
      rw [e1, e2]; exact hown3
     have HFIN := Lib.hid hfin; clear hfin hown3; go_wp2_with fail; go_ret; exact ⟨_, rfl, zaj HFIN.out (by have := hbw.size; omega), by first | exact zab hbw hb3 | (rw [<- hgt]; exact zab hbw hb3)⟩
 ·have HFE := Lib.hid (zxn (n := n) (m := m) (cs := cs) (pl := pl) (ds := ds) hq.out)
  go_wp2_with fail; go_ret; refine ⟨_, rfl, by rw [HFE.out]; exact World.ownsRow_nil _ _ _ _, by first | exact zab hbW hb1 | (rw [<- hgt]; exact zab hbW hb1)⟩
def pfs (gt : Nat) (n : Int) (mn wyn : Nat) (A1 A2 Aq : Option Addr) (n1 n2 cq cl pll : Nat) (ds : List Int) (i : Nat) (v : Value) (_ : Nat -> Nat) (w : World) : Prop :=
 match i with
 | 0 => v = .slice Aq (pll + 1) cq
 | 1 => v = .string (za6 zcl ds)
 | 2 => v = .pointer (some ⟨gt, 0, none⟩)
 | 3 => v = .agg #[.int .i64 n, .slice A1 cl n1, .slice A2 pll n2]
 | 4 => v = .int .i64 (wyn : Int)
 | 5 => v = .string (numS (wyn : Int))
 | 6 => v = .string ((⟨#[119, 104, 121, 32]⟩ : ByteArray) ++ numS (wyn : Int))
 | 7 => v = .pointer (some ⟨gt, 4, none⟩)
 | 8 => v = .int .i64 (mn : Int)
 | 9 => v = .string (numS (mn : Int))
 | 10 => v = .string ((⟨#[109, 111, 110, 101, 121, 32]⟩ : ByteArray) ++ numS (mn : Int))
 | 11 => ∃ g1 : Nat, v = .slice (some ⟨g1, 0, none⟩) 3 3 /\ RdS w 1 (.slice (some ⟨g1, 0, none⟩) 3 3) 3 [.string (za6 zcl ds), .string ((⟨#[119, 104, 121, 32]⟩ : ByteArray) ++ numS (wyn : Int)), .string ((⟨#[109, 111, 110, 101, 121, 32]⟩ : ByteArray) ++ numS (mn : Int))]
 | _ => True
theorem zyx (n : Int) : (⟨#[119, 104, 121, 32]⟩ : ByteArray) ++ numS n = za6 wWhy [n] := congrArg (fun x => x ++ numS n) (show (⟨#[119, 104, 121, 32]⟩ : ByteArray) = wWhy ++ spc1 from by decide)
theorem zus (n : Int) : (⟨#[109, 111, 110, 101, 121, 32]⟩ : ByteArray) ++ numS n = za6 zfw [n] := congrArg (fun x => x ++ numS n) (show (⟨#[109, 111, 110, 101, 121, 32]⟩ : ByteArray) = zfw ++ spc1 from by decide)
theorem zgj (n m : Int) (v1 v2 v3 : Value) (cs : List zad) (pl : List RPl) (ds : List Int) (w : World) (h : zak w v1 v2 v3 cs pl ds) :
  Calls Tryz.prog 14 #[.agg #[.int .i64 n, v1, v2, v3, .int .i64 m]] w fun e w' => ∃ v, e = .returned v /\ w'.ownsRow w.heap.size 9 1 v (fmtT n m cs pl ds).length ((fmtT n m cs pl ds).flatMap cStr) /\ Below w.heap.size w w' := by
 obtain ⟨⟨A1, n1, rfl⟩, ⟨A2, n2, rfl⟩, ⟨A3, n3, rfl⟩⟩ := h.forms; obtain ⟨i0, hi0, hz0, hz1', hz2⟩ := info_parts zdb; have hbW : Below w.heap.size w (w.alloc (.cells #[.int .i64 n, .slice A1 cs.length n1, .slice A2 pl.length n2, .slice A3 ds.length n3, .int .i64 m] 39)) := (Below.refl _ _).alloc (Nat.le_refl _) _; have Lt : Loc (w.alloc (.cells #[.int .i64 n, .slice A1 cs.length n1, .slice A2 pl.length n2, .slice A3 ds.length n3, .int .i64 m] 39)) w.heap.size [.int .i64 n, .slice A1 cs.length n1, .slice A2 pl.length n2, .slice A3 ds.length n3, .int .i64 m] := Loc.new w #[.int .i64 n, .slice A1 cs.length n1, .slice A2 pl.length n2, .slice A3 ds.length n3, .int .i64 m] 39; have hrt := h.below hbW
 go_enter Tryz.func14, Tryz.ntmps14
 go_upto_region 1 with (fail)
 obtain ⟨gt, hgt⟩ : ∃ gt, w.heap.size = gt := ⟨_, rfl⟩; rw [hgt] at Lt ⊢; have hgt2 : gt <= (w.alloc (.cells #[.int .i64 n, .slice A1 cs.length n1, .slice A2 pl.length n2, .slice A3 ds.length n3, .int .i64 m] 39)).heap.size := by simp; omega
 generalize w.alloc (.cells #[.int .i64 n, .slice A1 cs.length n1, .slice A2 pl.length n2, .slice A3 ds.length n3, .int .i64 m] 39) = W at *
 clear h; obtain ⟨t0, t1, t2, t3, t4⟩ := Lt.a5; go_wp2_with fail; refine twoB (za3 n m _ _ _ cs pl ds W hrt) (fun w1 hq hb1 => ?_) (fun w1 hq hb1 => ?_)
 ·have hf := zr4 hq.out
  obtain ⟨⟨ho7, hob⟩, ⟨hp6, hpb⟩, ⟨hd60, hdb⟩, hwy, hm⟩ := hf; have HOB : Hid (∀ x ∈ ordR n cs, 0 <= x /\ x <= 1000000) := fun x hx => by have := hob x hx; omega
  have HDB : Hid (∀ x ∈ ds, 0 <= x /\ x <= 1000000) := fun x hx => by have := hdb x hx; omega
  have HPB := Lib.hid hpb; have HFE := Lib.hid (zw1 hq.out); clear hob hdb hpb hq; replace Lt := Lt.below hb1; replace hrt := hrt.below hb1; have hbw := zab hbW hb1; clear hbW t0 t1 t2 t3 t4 hb1; obtain ⟨t0, t1⟩ := Lt.a2; go_wp2_with fail; refine (zcu n _ cs w1 hrt.1.1).mono ?_; rintro e w9 ⟨v9, rfl, own9, hb9⟩; have hr9 : RdL cInt 1 w9 v9 (ordR n cs) := RdS.of_own own9; obtain ⟨A9, c9, rfl, _, _⟩ := hr9.form; clear own9; replace Lt := Lt.below hb9; replace hrt := hrt.below hb9; replace hbw := zab hbw hb9; clear hb9 t0 t1; skip; go_wp2_with fail
  go_loopw [3, 5] (fun q i wr => ∃ k : Nat, k <= (ordR n cs).length /\ i = .int .i64 k /\ q = .string (za6 zd3 ((ordR n cs).take k)) /\ (za6 zd3 ((ordR n cs).take k)).size <= 5 + 22 * k /\ Below w9.heap.size w9 wr) (fun _ i _ => (ordR n cs).length - (intOf i).toNat)
  case atStart => exact ⟨0, Nat.zero_le _, rfl, rfl, by show (zd3).size <= _; decide, Below.refl _ _⟩
  case round =>
   obtain ⟨k, hk, rfl, rfl, hq5, hb⟩ := hrel; skip
   by_cases hlt : k < (ordR n cs).length
   ·obtain ⟨g, off, rfl, hg, hc⟩ := (hr9.below hb).cell zat (by omega) hlt
    have k0 := hc 0 _ rfl
    simp only [Nat.add_zero, Nat.mul_one] at k0
    clear hc; have HB := HOB.out (ordR n cs)[k] (List.getElem_mem hlt); have HSN : Hid (za6 zd3 ((ordR n cs).take (k + 1)) = addN (za6 zd3 ((ordR n cs).take k)) (ordR n cs)[k]) := zbl _ _ _ hlt; obtain ⟨x, hx⟩ := Int.eq_ofNat_of_zero_le HB.1; rw [hx] at HB HSN k0; clear hx; have hxs := zb0 (x : Int) (by omega)
    have hC := Lib.hid (fun W => zaz x W (by omega))
    generalize za6 zd3 ((ordR n cs).take k) = q at *
    have hn1 : (q ++ (⟨#[32]⟩ : ByteArray)).size = q.size + 1 := by rw [ByteArray.size_append]; rfl
    have hz4 : ¬ 9223372036854775807 < q.size + 1 := by omega
    have hz5 : ¬ 9223372036854775807 < (q ++ (⟨#[32]⟩ : ByteArray)).size + (numS (x : Int)).size := by omega
    have hzz : (addN q (x : Int)).size <= 5 + 22 * (k + 1) := by
     unfold addN spc1; rw [ByteArray.size_append, hn1]; omega
    clear HB hn1; go_wp2_with fail; refine (hC.out _).mono ?_; rintro e w6 ⟨rfl, hb6⟩; go_wp2_with fail; go_roundw
    case rel => exact ⟨k + 1, by omega, by go_num, congrArg Value.string HSN.out.symm, by rw [HSN.out]; exact hzz, zab hb hb6⟩
    case measure => simp [intOf]; omega
   ·obtain rfl : k = (ordR n cs).length := by omega
    rw [List.take_length]; have hbw2 := zab hbw hb; replace Lt := Lt.below hb; replace hrt := hrt.below hb; have hgz : gt < wr.heap.size := World.block_lt_of_cell? wr _ (Lt 0 _ rfl).1; obtain ⟨s0, hs0⟩ : ∃ s0, za6 zd3 (ordR n cs) = s0 := ⟨_, rfl⟩; rw [hs0]; have HS0 := Lib.hid hs0; clear hs0 hq5 hr9 hbw; have hbw := hbw2; clear hbw2 hb; obtain ⟨w2, hw2⟩ : ∃ w2, w2 = wr := ⟨_, rfl⟩; subst hw2; have hown0 : (w2.alloc (.cells #[.string s0] 9)).ownsRow w2.heap.size 9 1 (.slice (some ⟨w2.heap.size, 0, none⟩) 1 1) 1 [.string s0] := zm5 w2 #[.string s0] 1 rfl (by simp [maxLen])
    have hb0 : Below w2.heap.size w2 (w2.alloc (.cells #[.string s0] 9)) := (Below.refl _ _).alloc (Nat.le_refl _) _; go_wp2_with fail
    go_loopw [6, 7] (fun q i wr => ∃ k : Nat, k <= pl.length /\ i = .int .i64 k /\ wr.ownsRow w2.heap.size 9 1 q (k + 1) ((s0 :: (pl.take k).map plyT).flatMap cStr) /\ Below w2.heap.size w2 wr) (fun _ i _ => pl.length - (intOf i).toNat)
    case atStart => exact ⟨0, Nat.zero_le _, rfl, by simpa [cStr] using hown0, hb0⟩
    case round =>
     obtain ⟨k, hk, rfl, hown, hb⟩ := hrel; clear hown0 hb0; have hz := hb.size; have LtK := Lt.below hb; have t2 := (LtK 2 _ rfl).1; obtain ⟨Aq, cq, rfl, _, _⟩ := (RdS.of_own hown).form
     by_cases hlt : k < pl.length
     ·obtain ⟨g, off, u, rfl, hg, k0, k1, hru⟩ := (hrt.1.2.below hb).cell hlt
      obtain ⟨Au, cu, rfl, _, _⟩ := hru.form; have HPR := Lib.hid (HPB.out pl[k] (List.getElem_mem hlt))
      have HSN : Hid ((s0 :: (pl.take (k + 1)).map plyT).flatMap cStr = (s0 :: (pl.take k).map plyT).flatMap cStr ++ [.string (plyT pl[k])]) := by
       show _ = _
       have e : (s0 :: (pl.take (k + 1)).map plyT) = (s0 :: (pl.take k).map plyT) ++ [plyT pl[k]] := by rw [zbm pl hlt, List.map_append]; rfl
       rw [e, List.flatMap_append]; rfl
      generalize pl[k] = r at *
      have hkl : r.1.length <= 7 := HPR.out.1.1; obtain ⟨rf, hrf⟩ := Int.eq_ofNat_of_zero_le HPR.out.2.1; have hrf2 : rf <= 2 := by have := HPR.out.2.2; omega
      have hns := zb0 r.2 (by omega)
      have HKB : Hid (∀ x ∈ r.1, 0 <= x /\ x <= 1000000) := fun x hx => by have := HPR.out.1.2 x hx; omega
      have hkz := ziu (l := r.1) (fun x hx => by have := HKB.out x hx; omega)
      have HF2 : Hid (∀ W, Calls Tryz.prog 13 #[.int .i64 r.2] W fun e w' => e = .returned (.string (numS r.2)) /\ Below W.heap.size W w') := fun W => by
       have := zaz rf W (by omega)
       rw [hrf]; exact this
      clear hrf hrf2; have hbP : Below w2.heap.size w2 (wr.alloc (.cells #[.slice Au r.1.length cu, .int .i64 r.2] 60)) := hb.alloc hb.size _; have LP : Loc (wr.alloc (.cells #[.slice Au r.1.length cu, .int .i64 r.2] 60)) wr.heap.size [.slice Au r.1.length cu, .int .i64 r.2] := Loc.new wr #[.slice Au r.1.length cu, .int .i64 r.2] 60; have hownP := zac hown ((Below.refl _ _).alloc (Nat.le_refl _) _ : Below wr.heap.size wr (wr.alloc (.cells #[.slice Au r.1.length cu, .int .i64 r.2] 60))); have hruP := hru.below ((Below.refl _ _).alloc (Nat.le_refl _) _ : Below wr.heap.size wr (wr.alloc (.cells #[.slice Au r.1.length cu, .int .i64 r.2] 60))); clear HPR hown hru
      go_upto_region 14 with (fail)
      clear k0 k1 hb t2 LtK; generalize wr.alloc (.cells #[.slice Au r.1.length cu, .int .i64 r.2] 60) = WP at *
      have p0 := (LP 0 _ rfl).1; have hzP := hbP.size; go_wp2_with fail; refine (zhd _ r.1 WP hruP (by omega) HKB.out).mono ?_
      rintro e w5 ⟨rfl, hb5⟩; have hownK := zac hownP hb5; have hbK := zab hbP hb5; have hz5 := hbK.size; replace LP := LP.below hb5; clear p0 hownP hb5; obtain ⟨p0, p1⟩ := LP.a2
      rcases Nat.eq_zero_or_pos r.1.length with hl0 | hl0
      ·have hld : ((r.1.length : Int) == 0) = true := by rw [beq_iff_eq]; omega
       have HKN : Hid (zn3 r.1 = zhl) := if_pos (List.length_eq_zero_iff.1 hl0); have hknz : zhl.size <= 1 := by decide
       clear hl0 hkz; generalize zem r.1 = kn' at *
       have hpn : ¬ 9223372036854775807 < 7 + (numS r.2).size := by omega
       have hps : ((⟨#[112, 108, 97, 121, 101, 114, 32]⟩ : ByteArray) ++ numS r.2).size = 7 + (numS r.2).size := by rw [ByteArray.size_append]; rfl
       have hpn2 : ¬ 9223372036854775807 < ((⟨#[112, 108, 97, 121, 101, 114, 32]⟩ : ByteArray) ++ numS r.2).size + 1 := by omega
       have hps2 : (((⟨#[112, 108, 97, 121, 101, 114, 32]⟩ : ByteArray) ++ numS r.2) ++ (⟨#[32]⟩ : ByteArray)).size = 8 + (numS r.2).size := by rw [ByteArray.size_append, hps]; show 7 + _ + 1 = _; omega
       have hpn3 : ¬ 9223372036854775807 < (((⟨#[112, 108, 97, 121, 101, 114, 32]⟩ : ByteArray) ++ numS r.2) ++ (⟨#[32]⟩ : ByteArray)).size + (zhl).size := by omega
       clear hps hps2; go_wp2_with fail; refine (HF2.out w5).mono ?_; rintro e w6 ⟨rfl, hb6⟩; have hown6 := zac hownK hb6; have hbb6 := zab hbK hb6; have hz6 := hbb6.size; clear hownK hbK hb6
       go_wp2_with (at_builtin; go_must (refine zaf _ rfl (.tmp 60) (.tmp 68) _ rfl w2.heap.size 9 i0 _ 1 16 Tryz.underlying22 hi0 hz0 hz1' hz2 rfl (by omega) _ (k + 1) ((s0 :: (pl.take k).map plyT).flatMap cStr) rfl (hown6.alloc _) _ 1 [.string ((((⟨#[112, 108, 97, 121, 101, 114, 32]⟩ : ByteArray) ++ numS r.2) ++ (⟨#[32]⟩ : ByteArray)) ++ zhl)] rfl (zap w6 #[.string ((((⟨#[112, 108, 97, 121, 101, 114, 32]⟩ : ByteArray) ++ numS r.2) ++ (⟨#[32]⟩ : ByteArray)) ++ zhl)] _ 1 1 rfl (by simp [maxLen])) (by simp [Value.oneCell']) (by simp [maxLen]; omega) (by omega) (by simp; omega) ?_); intro v3 w3 hown3 hgr3)
       have hb3 : Below w2.heap.size w2 w3 := (hbb6.alloc hbb6.size _).trans (zag (hown6.alloc (.cells #[.string ((((⟨#[112, 108, 97, 121, 101, 114, 32]⟩ : ByteArray) ++ numS r.2) ++ (⟨#[32]⟩ : ByteArray)) ++ zhl)] 9)) hgr3 (by simp; omega))
       go_wp2_with fail; go_roundw
       case rel => exact ⟨k + 1, by omega, by go_num, by rw [HSN.out, show plyT r = (((⟨#[112, 108, 97, 121, 101, 114, 32]⟩ : ByteArray) ++ numS r.2) ++ (⟨#[32]⟩ : ByteArray)) ++ zhl from congrArg (fun x => ((zlj ++ numS r.2) ++ spc1) ++ x) HKN.out]; exact hown3, hb3⟩
       case measure => simp [intOf]; omega
      ·have hld : ((r.1.length : Int) == 0) = false := by rw [beq_eq_false_iff_ne]; omega
       have HKN : Hid (zn3 r.1 = zem r.1) := if_neg (fun e => by rw [e] at hl0; simp at hl0)
       clear hl0; generalize zem r.1 = kn at *
       have hpn : ¬ 9223372036854775807 < 7 + (numS r.2).size := by omega
       have hps : ((⟨#[112, 108, 97, 121, 101, 114, 32]⟩ : ByteArray) ++ numS r.2).size = 7 + (numS r.2).size := by rw [ByteArray.size_append]; rfl
       have hpn2 : ¬ 9223372036854775807 < ((⟨#[112, 108, 97, 121, 101, 114, 32]⟩ : ByteArray) ++ numS r.2).size + 1 := by omega
       have hps2 : (((⟨#[112, 108, 97, 121, 101, 114, 32]⟩ : ByteArray) ++ numS r.2) ++ (⟨#[32]⟩ : ByteArray)).size = 8 + (numS r.2).size := by rw [ByteArray.size_append, hps]; show 7 + _ + 1 = _; omega
       have hpn3 : ¬ 9223372036854775807 < (((⟨#[112, 108, 97, 121, 101, 114, 32]⟩ : ByteArray) ++ numS r.2) ++ (⟨#[32]⟩ : ByteArray)).size + (kn).size := by omega
       clear hps hps2; go_wp2_with fail; refine (HF2.out w5).mono ?_; rintro e w6 ⟨rfl, hb6⟩; have hown6 := zac hownK hb6; have hbb6 := zab hbK hb6; have hz6 := hbb6.size; clear hownK hbK hb6
       go_wp2_with (at_builtin; go_must (refine zaf _ rfl (.tmp 60) (.tmp 68) _ rfl w2.heap.size 9 i0 _ 1 16 Tryz.underlying22 hi0 hz0 hz1' hz2 rfl (by omega) _ (k + 1) ((s0 :: (pl.take k).map plyT).flatMap cStr) rfl (hown6.alloc _) _ 1 [.string ((((⟨#[112, 108, 97, 121, 101, 114, 32]⟩ : ByteArray) ++ numS r.2) ++ (⟨#[32]⟩ : ByteArray)) ++ kn)] rfl (zap w6 #[.string ((((⟨#[112, 108, 97, 121, 101, 114, 32]⟩ : ByteArray) ++ numS r.2) ++ (⟨#[32]⟩ : ByteArray)) ++ kn)] _ 1 1 rfl (by simp [maxLen])) (by simp [Value.oneCell']) (by simp [maxLen]; omega) (by omega) (by simp; omega) ?_); intro v3 w3 hown3 hgr3)
       have hb3 : Below w2.heap.size w2 w3 := (hbb6.alloc hbb6.size _).trans (zag (hown6.alloc (.cells #[.string ((((⟨#[112, 108, 97, 121, 101, 114, 32]⟩ : ByteArray) ++ numS r.2) ++ (⟨#[32]⟩ : ByteArray)) ++ kn)] 9)) hgr3 (by simp; omega))
       go_wp2_with fail; go_roundw
       case rel => exact ⟨k + 1, by omega, by go_num, by rw [HSN.out, show plyT r = (((⟨#[112, 108, 97, 121, 101, 114, 32]⟩ : ByteArray) ++ numS r.2) ++ (⟨#[32]⟩ : ByteArray)) ++ kn from congrArg (fun x => ((zlj ++ numS r.2) ++ spc1) ++ x) HKN.out]; exact hown3, hb3⟩
       case measure => simp [intOf]; omega
     ·obtain rfl : k = pl.length := by omega
      rw [List.take_length] at hown; have hbwL := zab hbw (Below.mono hb (by have := hbw.size; omega))
      replace Lt := LtK; replace hrt := hrt.below hb; clear LtK; obtain ⟨wo, hwo⟩ : ∃ wo, wo = wr := ⟨_, rfl⟩; subst hwo; have hb1x := hb; clear hb; have LtA := Lt; have t3 := (LtA 3 _ rfl).1; go_wp2_with fail
      go_loopw [10, 11] (fun q i wr => ∃ k : Nat, k <= (ds).length /\ i = .int .i64 k /\ q = .string (za6 zcl ((ds).take k)) /\ (za6 zcl ((ds).take k)).size <= 5 + 22 * k /\ Below wo.heap.size wo wr) (fun _ i _ => (ds).length - (intOf i).toNat)
      case atStart => exact ⟨0, Nat.zero_le _, rfl, rfl, by show (zcl).size <= _; decide, Below.refl _ _⟩
      case round =>
       obtain ⟨k, hk, rfl, rfl, hq5, hb⟩ := hrel; have L3 := Lt.below hb; have t3 := (L3 3 _ rfl).1
       by_cases hlt : k < (ds).length
       ·obtain ⟨g, off, rfl, hg, hc⟩ := (hrt.2.below hb).cell zat (by omega) hlt
        have k0 := hc 0 _ rfl
        simp only [Nat.add_zero, Nat.mul_one] at k0
        clear hc; have HB := HDB.out (ds)[k] (List.getElem_mem hlt); have HSN : Hid (za6 zcl ((ds).take (k + 1)) = addN (za6 zcl ((ds).take k)) (ds)[k]) := zbl _ _ _ hlt; obtain ⟨x, hx⟩ := Int.eq_ofNat_of_zero_le HB.1; rw [hx] at HB HSN k0; clear hx; have hxs := zb0 (x : Int) (by omega)
        have hC := Lib.hid (fun W => zaz x W (by omega))
        generalize za6 zcl ((ds).take k) = q at *
        have hn1 : (q ++ (⟨#[32]⟩ : ByteArray)).size = q.size + 1 := by rw [ByteArray.size_append]; rfl
        have hz4 : ¬ 9223372036854775807 < q.size + 1 := by omega
        have hz5 : ¬ 9223372036854775807 < (q ++ (⟨#[32]⟩ : ByteArray)).size + (numS (x : Int)).size := by omega
        have hzz : (addN q (x : Int)).size <= 5 + 22 * (k + 1) := by
         unfold addN spc1; rw [ByteArray.size_append, hn1]; omega
        clear HB hn1; go_wp2_with fail; refine (hC.out _).mono ?_; rintro e w6 ⟨rfl, hb6⟩; go_wp2_with fail; go_roundw
        case rel => exact ⟨k + 1, by omega, by go_num, congrArg Value.string HSN.out.symm, by rw [HSN.out]; exact hzz, zab hb hb6⟩
        case measure => simp [intOf]; omega
       ·obtain rfl : k = (ds).length := by omega
        rw [List.take_length]; have hbX := zab hb1x hb; replace Lt := Lt.below hb; replace hrt := hrt.below hb; have t0 := (Lt 0 _ rfl).1; have t1 := (Lt 1 _ rfl).1; have t2 := (Lt 2 _ rfl).1; have t4 := (Lt 4 _ rfl).1; have hownX := zac hown hb; obtain ⟨wyn, hwyn⟩ := Int.eq_ofNat_of_zero_le hwy.1; obtain ⟨mn, hmn⟩ := Int.eq_ofNat_of_zero_le hm.1
        have HFL : Hid (fmtT n m cs pl ds = (s0 :: pl.map plyT) ++ [za6 zcl ds, (⟨#[119, 104, 121, 32]⟩ : ByteArray) ++ numS (wyn : Int), (⟨#[109, 111, 110, 101, 121, 32]⟩ : ByteArray) ++ numS (mn : Int)]) := by
         show _ = _
         rw [HFE.out, <- HS0.out, zyx, zus, <- hwyn, <- hmn]; rfl
        have HWY : Hid (∀ W5, zaq W5 (.slice A1 cs.length n1) (.slice A2 pl.length n2) cs pl -> Calls Tryz.prog 33 #[.agg #[.int .i64 n, .slice A1 cs.length n1, .slice A2 pl.length n2]] W5 fun e w' => e = .returned (.int .i64 (wyn : Int)) /\ Below W5.heap.size W5 w') := fun W5 h5 => by
         have := ze7 n _ _ cs pl W5 h5; rw [hwyn] at this; exact this
        have hwn := zb0 (wyn : Int) (by omega)
        have hmz := zb0 (mn : Int) (by omega)
        rw [hmn] at t4; have hw3 : wyn <= 3 := by omega
        have hm6 : mn <= 1000000 := by omega
        clear HFE HS0 HPB HOB hwyn hmn
        go_upto_region 23 with (fail)
        refine zba (n := 99) 12 (by kernel_rfl) rfl (by kernel_rfl) (fun w' => Below wr.heap.size wr w') (fun _ => 0) (pfs gt n mn wyn A1 A2 Aq n1 n2 cq cs.length pl.length ds) (Below.refl _ _).drew ?_ ?_ ?_
        ·intro i v gh gh' w1 w2 hp hJ hb' hg
         match i, hp with
         | 0, hp => exact hp
         | 1, hp => exact hp
         | 2, hp => exact hp
         | 3, hp => exact hp
         | 4, hp => exact hp
         | 5, hp => exact hp
         | 6, hp => exact hp
         | 7, hp => exact hp
         | 8, hp => exact hp
         | 9, hp => exact hp
         | 10, hp => exact hp
         | 11, hp => exact (by obtain ⟨g1, h1, h2⟩ := hp; exact ⟨g1, h1, h2.below hb'⟩)
         | _ + 12, _ => trivial
        ·refine ⟨?_, ?_, ?_, ?_, ?_, ?_, ?_, ?_, ?_, ?_, ?_, ?_, trivial⟩
         ·intro a gh w5 hag hJ hd
          have ag6 : a.tmps.getD 6 undef = .slice Aq (pl.length + 1) cq := hag.k 6
          clear hag; go_wp2_with fail; exact mp0 hJ rfl
         ·intro a gh w5 hag hJ hd
          have ag10 : a.tmps.getD 10 undef = .string (za6 zcl ds) := hag.k 10
          clear hag; go_wp2_with fail; exact mp0 hJ rfl
         ·intro a gh w5 hag hJ hd
          have ag1 : a.tmps.getD 1 undef = .pointer (some ⟨gt, 0, none⟩) := hag.k 1
          clear hag; go_wp2_with fail; exact mp0 hJ rfl
         ·intro a gh w5 hag hJ hd
          clear hag; have e0 : a.tmps.getD 88 undef = .pointer (some ⟨gt, 0, none⟩) := hd 2 (by kernel_rfl) _ rfl
          have k0 := za5 hJ t0; have k1 := za5 hJ t1; have k2 := za5 hJ t2; go_wp2_with fail; exact mp0 hJ rfl
         ·intro a gh w5 hag hJ hd
          clear hag; have e0 : a.tmps.getD 89 undef = .agg #[.int .i64 n, .slice A1 cs.length n1, .slice A2 pl.length n2] := hd 3 (by kernel_rfl) _ rfl
          go_wp2_with fail; refine (HWY.out w5 (hrt.1.below hJ)).mono ?_; rintro e w6 ⟨rfl, hb6⟩; go_wp2_with fail; exact ⟨rfl, _, rfl, rfl, zab hJ hb6, hb6⟩
         ·intro a gh w5 hag hJ hd
          clear hag; have e0 : a.tmps.getD 90 undef = .int .i64 (wyn : Int) := hd 4 (by kernel_rfl) _ rfl
          go_wp2_with fail; refine (zaz _ w5 (by omega)).mono ?_
          rintro e w6 ⟨rfl, hb6⟩; go_wp2_with fail; exact ⟨rfl, _, rfl, rfl, zab hJ hb6, hb6⟩
         ·intro a gh w5 hag hJ hd
          clear hag; have e0 : a.tmps.getD 91 undef = .string (numS (wyn : Int)) := hd 5 (by kernel_rfl) _ rfl
          have hnn : ¬ 9223372036854775807 < 4 + (numS (wyn : Int)).size := by omega
          go_wp2_with fail; exact mp0 hJ rfl
         ·intro a gh w5 hag hJ hd
          have ag1 : a.tmps.getD 1 undef = .pointer (some ⟨gt, 0, none⟩) := hag.k 1
          clear hag; go_wp2_with fail; exact mp0 hJ rfl
         ·intro a gh w5 hag hJ hd
          clear hag; have e0 : a.tmps.getD 93 undef = .pointer (some ⟨gt, 4, none⟩) := hd 7 (by kernel_rfl) _ rfl
          have k4 := za5 hJ t4; go_wp2_with fail; exact mp0 hJ rfl
         ·intro a gh w5 hag hJ hd
          clear hag; have e0 : a.tmps.getD 94 undef = .int .i64 (mn : Int) := hd 8 (by kernel_rfl) _ rfl
          go_wp2_with fail; refine (zaz _ w5 (by omega)).mono ?_
          rintro e w6 ⟨rfl, hb6⟩; go_wp2_with fail; exact ⟨rfl, _, rfl, rfl, zab hJ hb6, hb6⟩
         ·intro a gh w5 hag hJ hd
          clear hag; have e0 : a.tmps.getD 95 undef = .string (numS (mn : Int)) := hd 9 (by kernel_rfl) _ rfl
          have hnn : ¬ 9223372036854775807 < 6 + (numS (mn : Int)).size := by omega
          go_wp2_with fail; exact mp0 hJ rfl
         ·intro a gh w5 hag hJ hd
          have e0 : a.tmps.getD 87 undef = .string (za6 zcl ds) := hd 1 (by kernel_rfl) _ rfl
          have e1 : a.tmps.getD 92 undef = .string ((⟨#[119, 104, 121, 32]⟩ : ByteArray) ++ numS (wyn : Int)) := hd 6 (by kernel_rfl) _ rfl
          have e2 : a.tmps.getD 96 undef = .string ((⟨#[109, 111, 110, 101, 121, 32]⟩ : ByteArray) ++ numS (mn : Int)) := hd 10 (by kernel_rfl) _ rfl
          rw [zd1 99 hag.size hag.defers]; simp only [gd, Nat.reduceAdd, e0, e1, e2]; clear hag; go_wp2_with fail; exact ⟨rfl, _, rfl, ⟨w5.heap.size, rfl, zap w5 #[.string (za6 zcl ds), .string ((⟨#[119, 104, 121, 32]⟩ : ByteArray) ++ numS (wyn : Int)), .string ((⟨#[109, 111, 110, 101, 121, 32]⟩ : ByteArray) ++ numS (mn : Int))] 9 1 3 rfl (by simp [maxLen])⟩, hJ.alloc hJ.size _, (Below.refl _ _).alloc (Nat.le_refl _) _⟩
        ·intro a gh w5 hag hJ hd
         have ag0 := hag.k 0
         have ag1 : a.tmps.getD 1 undef = .pointer (some ⟨gt, 0, none⟩) := hag.k 1
         have ag2 := hag.k 2
         have ag3 := hag.k 3
         have ag4 := hag.k 4
         have ag5 := hag.k 5
         have ag6 : a.tmps.getD 6 undef = .slice Aq (pl.length + 1) cq := hag.k 6
         have ag7 := hag.k 7
         have ag8 := hag.k 8
         have ag9 := hag.k 9
         have ag10 : a.tmps.getD 10 undef = .string (za6 zcl ds) := hag.k 10
         have ag11 := hag.k 11
         have ag12 := hag.k 12
         have ag13 := hag.k 13
         have ag14 := hag.k 14
         have ag15 := hag.k 15
         have ag16 := hag.k 16
         have ag17 := hag.k 17
         have ag18 := hag.k 18
         have ag19 := hag.k 19
         have ag20 := hag.k 20
         have ag21 := hag.k 21
         have ag22 := hag.k 22
         have ag23 := hag.k 23
         have ag24 := hag.k 24
         have ag25 := hag.k 25
         have ag26 := hag.k 26
         have ag27 := hag.k 27
         have ag28 := hag.k 28
         have ag29 := hag.k 29
         have ag30 := hag.k 30
         have ag31 := hag.k 31
         have ag32 := hag.k 32
         have ag33 := hag.k 33
         have ag34 := hag.k 34
         have ag35 := hag.k 35
         have ag36 := hag.k 36
         have ag37 := hag.k 37
         have ag38 := hag.k 38
         have ag39 := hag.k 39
         have ag40 := hag.k 40
         have ag41 := hag.k 41
         have ag42 := hag.k 42
         have ag43 := hag.k 43
         have ag44 := hag.k 44
         have ag45 := hag.k 45
         have ag46 := hag.k 46
         have ag47 := hag.k 47
         have ag48 := hag.k 48
         have ag49 := hag.k 49
         have ag50 := hag.k 50
         have ag51 := hag.k 51
         have ag52 := hag.k 52
         have ag53 := hag.k 53
         have ag54 := hag.k 54
         have ag55 := hag.k 55
         have ag56 := hag.k 56
         have ag57 := hag.k 57
         have ag58 := hag.k 58
         have ag59 := hag.k 59
         have ag60 := hag.k 60
         have ag61 := hag.k 61
         have ag62 := hag.k 62
         have ag63 := hag.k 63
         have ag64 := hag.k 64
         have ag65 := hag.k 65
         have ag66 := hag.k 66
         have ag67 := hag.k 67
         have ag68 := hag.k 68
         have ag69 := hag.k 69
         have ag70 := hag.k 70
         have ag71 := hag.k 71
         have ag72 := hag.k 72
         have ag73 := hag.k 73
         have ag74 := hag.k 74
         have ag75 := hag.k 75
         have ag76 := hag.k 76
         have ag77 := hag.k 77
         have ag78 := hag.k 78
         have ag79 := hag.k 79
         have ag80 := hag.k 80
         have ag81 := hag.k 81
         have ag82 := hag.k 82
         have ag83 := hag.k 83
         have ag84 := hag.k 84
         have ag85 := hag.k 85
         have ag98 := hag.k 98
         rw [zd1 99 hag.size hag.defers]; simp only [gd, Nat.reduceAdd]; clear hag; have e86 : a.tmps.getD 86 undef = .slice Aq (pl.length + 1) cq := hd 0 (by kernel_rfl) _ rfl
         obtain ⟨g4, e97, hsrc⟩ : ∃ g1 : Nat, a.tmps.getD 97 undef = .slice (some ⟨g1, 0, none⟩) 3 3 /\ RdS w5 1 (.slice (some ⟨g1, 0, none⟩) 3 3) 3 [.string (za6 zcl ds), .string ((⟨#[119, 104, 121, 32]⟩ : ByteArray) ++ numS (wyn : Int)), .string ((⟨#[109, 111, 110, 101, 121, 32]⟩ : ByteArray) ++ numS (mn : Int))] := hd 11 (by kernel_rfl) _ rfl
         rw [ag0, ag1, ag2, ag3, ag4, ag5, ag6, ag7, ag8, ag9, ag10, ag11, ag12, ag13, ag14, ag15, ag16, ag17, ag18, ag19, ag20, ag21, ag22, ag23, ag24, ag25, ag26, ag27, ag28, ag29, ag30, ag31, ag32, ag33, ag34, ag35, ag36, ag37, ag38, ag39, ag40, ag41, ag42, ag43, ag44, ag45, ag46, ag47, ag48, ag49, ag50, ag51, ag52, ag53, ag54, ag55, ag56, ag57, ag58, ag59, ag60, ag61, ag62, ag63, ag64, ag65, ag66, ag67, ag68, ag69, ag70, ag71, ag72, ag73, ag74, ag75, ag76, ag77, ag78, ag79, ag80, ag81, ag82, ag83, ag84, ag85, ag98, e86, e97]; change wpList _ _ _ [_, _] _ _; have hown5 := zac hownX hJ; have hbJ := zab hbX hJ; have hz5 := hbJ.size; clear hd
         go_wp2_with (at_builtin; go_must (refine zaf _ rfl (.tmp 86) (.tmp 97) _ rfl w2.heap.size 9 i0 _ 1 16 Tryz.underlying22 hi0 hz0 hz1' hz2 rfl (by omega) _ (pl.length + 1) ((s0 :: pl.map plyT).flatMap cStr) rfl hown5 _ 3 [.string (za6 zcl ds), .string ((⟨#[119, 104, 121, 32]⟩ : ByteArray) ++ numS (wyn : Int)), .string ((⟨#[109, 111, 110, 101, 121, 32]⟩ : ByteArray) ++ numS (mn : Int))] rfl hsrc (by simp [Value.oneCell']) (by simp [maxLen]; omega) (by omega) (by omega) ?_); intro v3 w3 hown3 hgr3)
         have hb3 : Below w2.heap.size w2 w3 := hbJ.trans (zag hown5 hgr3 (by omega))
         have hfin : w3.ownsRow w2.heap.size 9 1 v3 (fmtT n m cs pl ds).length ((fmtT n m cs pl ds).flatMap cStr) := by
          have e1 : (fmtT n m cs pl ds).length = pl.length + 1 + 3 := by rw [HFL.out]; simp
          have e2 : (fmtT n m cs pl ds).flatMap cStr = (s0 :: pl.map plyT).flatMap cStr ++ [.string (za6 zcl ds), .string ((⟨#[119, 104, 121, 32]⟩ : ByteArray) ++ numS (wyn : Int)), .string ((⟨#[109, 111, 110, 101, 121, 32]⟩ : ByteArray) ++ numS (mn : Int))] := by rw [HFL.out, List.flatMap_append]; rfl
          rw [e1, e2]; exact hown3
         have HFIN := Lib.hid hfin; clear hfin hown3; go_wp2_with fail; go_ret; exact ⟨_, rfl, zaj HFIN.out (by have := hbw.size; omega), by first | exact zab hbw hb3 | (rw [<- hgt]; exact zab hbw hb3)⟩
 ·have HFE := Lib.hid (zxn (n := n) (m := m) (cs := cs) (pl := pl) (ds := ds) hq.out)
  go_wp2_with fail; go_ret; refine ⟨_, rfl, by rw [HFE.out]; exact zaj (World.ownsRow_made (size := 1) (e := 9) w1 #[] 0 (Nat.le_refl _) (by simp [maxLen]) rfl) (by have := hb1.size; have := hbW.size; omega), by first | exact (zab hbW hb1).alloc (zab hbW hb1).size _ | (rw [<- hgt]; exact (zab hbW hb1).alloc (zab hbW hb1).size _)⟩
end Go.Proofs.YtkbacoadejglkaaGreatDoor
