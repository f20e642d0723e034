/- Contracts: ParseAct of the reference. -/
import Derived.Test.YtminhkfbpiknkaaDoorBdH8x3
import Derived.Test.YtminhkfbpiknkaaDoorBdH3x2
import Derived.Test.YtminhkfbpiknkaaDoorBdC1x3
import Derived.Test.YtminhkfbpiknkaaDoorBdM5x2
import Derived.Test.YtminhkfbpiknkaaDoorBdM7x2
import Derived.Test.YtminhkfbpiknkaaDoorM16
namespace Go.Proofs.YtminhkfbpiknkaaDoor
open Go.RowKit
theorem int_flat (l : List Int) : l.flatMap cInt = l.map (Value.int .i64) := by
 induction l with
 | nil => rfl
 | cons x l ih => rw [List.flatMap_cons, ih]; rfl
set_option maxRecDepth 100000 in
theorem act80pa {a : Act} (h : a.tmps.size = 80) (hd : a.defers = []) : a = ⟨List.toArray (a.tmps.getD 0 undef :: a.tmps.getD 1 undef :: a.tmps.getD 2 undef :: a.tmps.getD 3 undef :: a.tmps.getD 4 undef :: a.tmps.getD 5 undef :: a.tmps.getD 6 undef :: a.tmps.getD 7 undef :: a.tmps.getD 8 undef :: a.tmps.getD 9 undef :: a.tmps.getD 10 undef :: a.tmps.getD 11 undef :: a.tmps.getD 12 undef :: a.tmps.getD 13 undef :: a.tmps.getD 14 undef :: a.tmps.getD 15 undef :: a.tmps.getD 16 undef :: a.tmps.getD 17 undef :: a.tmps.getD 18 undef :: a.tmps.getD 19 undef :: a.tmps.getD 20 undef :: a.tmps.getD 21 undef :: a.tmps.getD 22 undef :: a.tmps.getD 23 undef :: a.tmps.getD 24 undef :: a.tmps.getD 25 undef :: a.tmps.getD 26 undef :: a.tmps.getD 27 undef :: a.tmps.getD 28 undef :: a.tmps.getD 29 undef :: a.tmps.getD 30 undef :: a.tmps.getD 31 undef :: a.tmps.getD 32 undef :: a.tmps.getD 33 undef :: a.tmps.getD 34 undef :: a.tmps.getD 35 undef :: a.tmps.getD 36 undef :: a.tmps.getD 37 undef :: a.tmps.getD 38 undef :: a.tmps.getD 39 undef :: a.tmps.getD 40 undef :: a.tmps.getD 41 undef :: a.tmps.getD 42 undef :: a.tmps.getD 43 undef :: a.tmps.getD 44 undef :: a.tmps.getD 45 undef :: a.tmps.getD 46 undef :: a.tmps.getD 47 undef :: a.tmps.getD 48 undef :: a.tmps.getD 49 undef :: a.tmps.getD 50 undef :: a.tmps.getD 51 undef :: a.tmps.getD 52 undef :: a.tmps.getD 53 undef :: a.tmps.getD 54 undef :: a.tmps.getD 55 undef :: a.tmps.getD 56 undef :: a.tmps.getD 57 undef :: a.tmps.getD 58 undef :: a.tmps.getD 59 undef :: a.tmps.getD 60 undef :: a.tmps.getD 61 undef :: a.tmps.getD 62 undef :: a.tmps.getD 63 undef :: a.tmps.getD 64 undef :: a.tmps.getD 65 undef :: a.tmps.getD 66 undef :: a.tmps.getD 67 undef :: a.tmps.getD 68 undef :: a.tmps.getD 69 undef :: a.tmps.getD 70 undef :: a.tmps.getD 71 undef :: a.tmps.getD 72 undef :: a.tmps.getD 73 undef :: a.tmps.getD 74 undef :: a.tmps.getD 75 undef :: a.tmps.getD 76 undef :: a.tmps.getD 77 undef :: a.tmps.getD 78 undef :: a.tmps.getD 79 undef :: []), []⟩ := act_eq 80 h hd
def ppa (B : Nat) (kk na nb : Int) (gn on fl cn : Nat) (i : Nat) (v : Value) (_ : Nat → Nat) (w : World) : Prop :=
 match i with
 | 0 => v = .int .i64 kk
 | 1 => v = .slice (some ⟨gn, on, none⟩) (fl - 1 + 2) cn
 | 2 => v = .pointer (some ⟨gn, on, none⟩)
 | 3 => v = .int .i64 na
 | 4 => v = .slice (some ⟨gn, on, none⟩) (fl - 1 + 2) cn
 | 5 => v = .pointer (some ⟨gn, (on + 1), none⟩)
 | 6 => v = .int .i64 nb
 | 7 => v = .agg #[.int .i64 kk, .int .i64 na, .int .i64 nb]
 | 8 => ∃ xb, v = .pointer (some ⟨xb, 0, none⟩) ∧ B ≤ xb ∧ Loc w xb [.int .i64 0, .int .i64 0, .int .i64 0] ∧ xb < w.heap.size
 | _ => True
set_option maxHeartbeats 2000000 in
set_option maxRecDepth 100000 in
theorem specParseAct_any (s : ByteArray) (w : World) (hs : s.size ≤ 9223372036854775807) :
  Calls Tryd.prog 5 #[.string s] w fun e w' => e = .returned (.tuple #[.agg #[.int .i64 (prsA s).1.1, .int .i64 (prsA s).1.2.1, .int .i64 (prsA s).1.2.2], .bool (prsA s).2]) ∧ Below w.heap.size w w' := by
 have hal : Below w.heap.size w (w.alloc (.cells #[.int .i64 0, .int .i64 0, .int .i64 0] 23)) := (Below.refl _ _).alloc (Nat.le_refl _) _
 have L0 : Loc (w.alloc (.cells #[.int .i64 0, .int .i64 0, .int .i64 0] 23)) w.heap.size [.int .i64 0, .int .i64 0, .int .i64 0] := Loc.new w #[.int .i64 0, .int .i64 0, .int .i64 0] 23
 have hF := fb_fldF s
 have hsz : ∀ f ∈ fldF s, f.size ≤ 600 := fun f hf => fldF_sz hf
 go_enter Tryd.func5, Tryd.ntmps5
 go_wp2_with fail
 refine (specSplitFields_any s _ hs).mono ?_
 rintro e w1 ⟨v, rfl, hr, hb1⟩
 have L := L0.below hb1
 have hb2 := bl_trans hal hb1
 have hz := hb2.size
 obtain ⟨g, hg⟩ : ∃ g, w.heap.size = g := ⟨_, rfl⟩
 rw [hg] at L ⊢
 have b0 := (L 0 _ rfl).1
 have b1 := (L 1 _ rfl).1
 have b2 := (L 2 _ rfl).1
 have f0 := (L 0 _ rfl).2
 have f1 := (L 1 _ rfl).2
 have f2 := (L 2 _ rfl).2
 have hgz : g < w1.heap.size := World.block_lt_of_cell? w1 _ b0
 clear L0 hb1 hal
 obtain ⟨A, c, rfl, h1, h2⟩ := hr.form
 obtain ⟨i0, hi0, hz0, hzz1, hz2⟩ := info_parts infoInt
 generalize hfs : fldF s = fs at *
 by_cases hfb : fldB s = true
 ·rw [hfb]
  by_cases h13 : 1 ≤ fs.length ∧ fs.length ≤ 3
  ·have hp : prsA s = spcTo fs (argA fs).1 (argA fs).2 (kFrom 1) := by
    unfold prsA spcA
    rw [if_pos hfb, hfs, if_neg (by omega)]; rfl
   have HP := Lib.hid hp
   have hi := inB_iff.2 (show (1 : Int) ≤ (fs.length : Int) ∧ (fs.length : Int) ≤ 3 by omega)
   clear hp
   obtain ⟨g0, off0, rfl, hg0, hc0⟩ := hr.cell cStr_len (by omega) (show 0 < fs.length by omega)
   have k0 := hc0 0 _ rfl
   simp only [Nat.add_zero, Nat.zero_mul] at k0
   have hown0 := World.ownsRow_made (size := 1) (e := 3) w1 #[] 0 (Nat.le_refl _) (by simp [maxLen]) rfl
   have hb0 : Below w1.heap.size w1 (w1.alloc (.cells #[] 3)) := (Below.refl _ _).alloc (Nat.le_refl _) _
   go_wp2_with (go_at_call 12; refine (l01In_any _ _ _ _).mono ?_; rintro e wq ⟨rfl, rfl⟩; rw [hi])
   go_loopw [6, 7, 8] (fun q r i wr => ∃ k : Nat, 1 ≤ k ∧ k ≤ fs.length ∧ i = .int .i64 k ∧ q = .string (jnB (fs.take k)) ∧ (jnB (fs.take k)).size ≤ 601 * k ∧ wr.ownsRow w1.heap.size 3 1 r (k - 1) ((nF (fs.take k)).flatMap cInt) ∧ Below w1.heap.size w1 wr) (fun _ _ i _ => fs.length - (intOf i).toNat)
   case atStart =>
    refine ⟨1, Nat.le_refl _, h13.1, rfl, ?_, ?_, ?_, hb0⟩
    ·rw [jnB_take1 (by omega)]
    ·rw [jnB_take1 (by omega)]; have := hsz _ (List.getElem_mem (show 0 < fs.length by omega)); omega
    ·rw [nF_take1]; exact hown0
   case round =>
    obtain ⟨k, h1k, hk, rfl, rfl, hq, hown, hb⟩ := hrel
    clear hown0 hb0 k0 hc0
    have hz1 := hb.size
    by_cases hlt : k < fs.length
    ·obtain ⟨g1, off1, hA1, hg1, hc1⟩ := (hr.below hb).cell cStr_len (by omega) hlt
     obtain ⟨rfl, rfl⟩ : g0 = g1 ∧ off0 = off1 := by simpa using hA1
     clear hA1
     have k1 := hc1 0 _ rfl
     simp only [Nat.add_zero, Nat.mul_one] at k1
     clear hc1
     have hjn := Lib.hid (jnB_take (by omega) hlt)
     have hnf := Lib.hid (nF_take (by omega) hlt)
     have hfk := hsz _ (List.getElem_mem hlt)
     have hC := Lib.hid (fun W => specNumber_any fs[k] W (by omega))
     have hbdN := numF_bd fs[k]
     have hn1 : (jnB (fs.take k) ++ (⟨#[32]⟩ : ByteArray)).size = (jnB (fs.take k)).size + 1 := by rw [ByteArray.size_append]; rfl
     have hz4 : ¬ 9223372036854775807 < (jnB (fs.take k)).size + 1 := by omega
     have hz5 : ¬ 9223372036854775807 < (jnB (fs.take k) ++ (⟨#[32]⟩ : ByteArray)).size + fs[k].size := by omega
     obtain ⟨Aq, cq, rfl, _, _⟩ := (RdS.of_own hown).form
     go_wp2_with fail
     refine (hC.out wr).mono ?_
     rintro e w2 ⟨rfl, hb3⟩
     have hb4 := bl_trans hb hb3
     have hown2 := own_below hown hb3
     have hz6 := hb4.size
     clear hC hown
     generalize numF fs[k] = n at *
     go_wp2_with (at_builtin; go_must (refine wpList_appendR _ rfl (.tmp 44) (.tmp 50) _ rfl w1.heap.size 3 i0 _ 1 8 Tryd.underlying34 hi0 hz0 hzz1 hz2 rfl (by omega) _ (k - 1) ((nF (fs.take k)).flatMap cInt) rfl (hown2.alloc _) _ 1 [.int .i64 n] rfl (rdS_new w2 #[.int .i64 n] _ 1 1 rfl (by simp [maxLen])) (by simp [Value.oneCell']) (by simp [maxLen]; omega) (by omega) (by simp; omega) ?_); intro v3 w3 hown3 hgr3)
     have hb5 : Below w1.heap.size w1 w3 := (hb4.alloc hb4.size _).trans (below_own (hown2.alloc (.cells #[.int .i64 n] 3)) hgr3 (by simp; omega))
     have hjs : (jnB (fs.take (k + 1))).size ≤ 601 * (k + 1) := by rw [hjn.out, ByteArray.size_append]; omega
     clear hown2 hgr3
     go_wp2_with fail
     go_roundw
     case rel => exact ⟨k + 1, by omega, by omega, by go_num, congrArg Value.string hjn.out.symm, hjs, by rw [hnf.out, List.flatMap_append, show k + 1 - 1 = k - 1 + 1 by omega]; exact hown3, hb5⟩
     case measure => simp [intOf]; omega
    ·have hke : k = fs.length := by omega
     subst hke
     rw [List.take_length] at hown hq ⊢
     have hz3 := hb.size
     have hnl : (nF fs).length = fs.length - 1 := by simp [nF]
     obtain ⟨Aq, cq, rfl, _, _⟩ := (RdS.of_own hown).form
     go_wp2_with (at_builtin; go_must (refine wpList_appendR _ rfl (.tmp 52) (.tmp 53) _ rfl w1.heap.size 3 i0 _ 1 8 Tryd.underlying34 hi0 hz0 hzz1 hz2 rfl (by omega) _ (fs.length - 1) ((nF fs).flatMap cInt) rfl (hown.alloc _) _ 2 [.int .i64 0, .int .i64 0] rfl (rdS_new wr #[.int .i64 0, .int .i64 0] _ 1 2 rfl (by simp [maxLen])) (by simp [Value.oneCell']) (by simp [maxLen]; omega) (by omega) (by simp; omega) ?_); intro v3 w3 hown3 hgr3)
     have hb5 : Below w1.heap.size w1 w3 := (hb.alloc hb.size _).trans (below_own (hown.alloc (.cells #[.int .i64 0, .int .i64 0] 3)) hgr3 (by simp; omega))
     obtain ⟨A3, cn, rfl, hcn1, hcn2⟩ := (RdS.of_own hown3).form
     obtain ⟨gn, on, rfl, hgn, hcell⟩ := RdS.at_ (RdS.of_own hown3) (by omega) (by omega)
     have hA := nF_a h13.1 h13.2
     have hfl : ((nF fs).flatMap cInt ++ [Value.int .i64 0, .int .i64 0]) = (nF fs ++ [0, 0]).flatMap cInt := by rw [List.flatMap_append]; rfl
     have n0 : w3.cell? ⟨gn, on + 0, none⟩ = some (.int .i64 (argA fs).1) := hcell 0 _ (by rw [hfl, int_flat, List.getElem?_map, hA.1]; rfl)
     have n1 : w3.cell? ⟨gn, on + 1, none⟩ = some (.int .i64 (argA fs).2) := hcell 1 _ (by rw [hfl, int_flat, List.getElem?_map, hA.2]; rfl)
     rw [Nat.add_zero] at n0
     have HJB := Lib.hid (⟨hF, h13⟩ : FB fs ∧ 1 ≤ fs.length ∧ fs.length ≤ 3)
     have L3 := L.below hb5
     have hz5 := hb5.size
     clear hcell hfl hA hown hgr3 hown3 hnl hr hzz1 hF
     generalize (argA fs).1 = na at *
     generalize (argA fs).2 = nb at *
     clear b0 b1 b2 f0 f1 f2
     go_wp2_with fail
     go_loopw [9] (fun i wr => ∃ kk : Nat, 1 ≤ kk ∧ kk ≤ 8 ∧ i = .int .i64 kk ∧ Hid (prsA s = spcTo fs na nb (kFrom kk)) ∧ Below w3.heap.size w3 wr) (fun i _ => 8 - (intOf i).toNat)
     case atStart => exact ⟨1, Nat.le_refl _, by omega, rfl, HP, Below.refl _ _⟩
     case round =>
      obtain ⟨kk, hk1, hk8, rfl, HQ, hb6⟩ := hrel
      replace n0 := carry hb6 n0
      replace n1 := carry hb6 n1
      replace L3 := L3.below hb6
      have hz6 := hb6.size
      clear HP
      by_cases hle : kk ≤ 7
      ·have hk7 : (kk : Int) ≤ 7 := by omega
       have hp0 : (0 : Int) < ((fs.length - 1 + 2 : Nat) : Int) := by omega
       have hp1 : (1 : Int) < ((fs.length - 1 + 2 : Nat) : Int) := by omega
       obtain ⟨t, hts⟩ : ∃ t, actS ((kk : Int), na, nb) = t := ⟨_, rfl⟩
       obtain ⟨bb, hbb⟩ : ∃ bb, actB (kk : Int) na nb = bb := ⟨_, rfl⟩
       have hC := fun W => specFormatAct_any (kk : Int) na nb W
       rw [hts, hbb] at hC
       have HC := Lib.hid hC
       have HTS := Lib.hid hts
       have HBB := Lib.hid hbb
       clear hC hts hbb
       go_upto_region 15 with (fail)
       refine region_made (n := 80) 9 (by kernel_rfl) rfl (by kernel_rfl) (fun w' => Below wr.heap.size wr w') (fun _ => 0) (ppa wr.heap.size kk na nb gn on fs.length cn) (Below.refl _ _).drew ?_ ?_ ?_
       ·intro i v gh gh' w1 w2 hp hJ hb' hg
        match i, hp with
        | 0, hp => exact hp
        | 1, hp => exact hp
        | 2, hp => exact hp
        | 3, hp => exact hp
        | 4, hp => exact hp
        | 5, hp => exact hp
        | 6, hp => exact hp
        | 7, hp => exact hp
        | 8, hp => exact (by obtain ⟨xb, h1, h2, h3, h4⟩ := hp; exact ⟨xb, h1, h2, h3.below hb', Nat.lt_of_lt_of_le h4 hb'.size⟩)
        | _ + 9, _ => trivial
       ·refine ⟨?_, ?_, ?_, ?_, ?_, ?_, ?_, ?_, ?_, trivial⟩
        ·intro a gh w5 hag hJ hd
         have ag9 : a.tmps.getD 9 undef = .int .i64 kk := hag.kept 9 (by kernel_rfl)
         clear hag
         go_wp2_with fail
         exact ⟨rfl, _, rfl, rfl, hJ, Below.refl _ _⟩
        ·intro a gh w5 hag hJ hd
         have ag7 : a.tmps.getD 7 undef = .slice (some ⟨gn, on, none⟩) (fs.length - 1 + 2) cn := hag.kept 7 (by kernel_rfl)
         clear hag
         go_wp2_with fail
         exact ⟨rfl, _, rfl, rfl, hJ, Below.refl _ _⟩
        ·intro a gh w5 hag hJ hd
         clear hag
         have e0 : a.tmps.getD 60 undef = .slice (some ⟨gn, on, none⟩) (fs.length - 1 + 2) cn := hd 1 (by kernel_rfl) _ rfl
         go_wp2_with fail
         exact ⟨rfl, _, rfl, rfl, hJ, Below.refl _ _⟩
        ·intro a gh w5 hag hJ hd
         clear hag
         have e0 : a.tmps.getD 61 undef = .pointer (some ⟨gn, on, none⟩) := hd 2 (by kernel_rfl) _ rfl
         have k0 := carry hJ n0
         go_wp2_with fail
         exact ⟨rfl, _, rfl, rfl, hJ, Below.refl _ _⟩
        ·intro a gh w5 hag hJ hd
         have ag7 : a.tmps.getD 7 undef = .slice (some ⟨gn, on, none⟩) (fs.length - 1 + 2) cn := hag.kept 7 (by kernel_rfl)
         clear hag
         go_wp2_with fail
         exact ⟨rfl, _, rfl, rfl, hJ, Below.refl _ _⟩
        ·intro a gh w5 hag hJ hd
         clear hag
         have e0 : a.tmps.getD 63 undef = .slice (some ⟨gn, on, none⟩) (fs.length - 1 + 2) cn := hd 4 (by kernel_rfl) _ rfl
         go_wp2_with fail
         exact ⟨rfl, _, rfl, rfl, hJ, Below.refl _ _⟩
        ·intro a gh w5 hag hJ hd
         clear hag
         have e0 : a.tmps.getD 64 undef = .pointer (some ⟨gn, (on + 1), none⟩) := hd 5 (by kernel_rfl) _ rfl
         have k0 := carry hJ n1
         go_wp2_with fail
         exact ⟨rfl, _, rfl, rfl, hJ, Below.refl _ _⟩
        ·intro a gh w5 hag hJ hd
         have e0 : a.tmps.getD 59 undef = .int .i64 kk := hd 0 (by kernel_rfl) _ rfl
         have e1 : a.tmps.getD 62 undef = .int .i64 na := hd 3 (by kernel_rfl) _ rfl
         have e2 : a.tmps.getD 65 undef = .int .i64 nb := hd 6 (by kernel_rfl) _ rfl
         rw [act80pa hag.size hag.defers, e0, e1, e2]
         clear hag
         go_wp2_with fail
         exact ⟨rfl, _, rfl, rfl, hJ, Below.refl _ _⟩
        ·intro a gh w5 hag hJ hd
         clear hag
         go_wp2_with fail
         exact ⟨rfl, _, rfl, ⟨w5.heap.size, rfl, hJ.size, Loc.new w5 #[.int .i64 0, .int .i64 0, .int .i64 0] 23, by simp⟩, hJ.alloc hJ.size _, (Below.refl _ _).alloc (Nat.le_refl _) _⟩
       ·intro a gh w5 hag hJ hd
        have ag0 := hag.kept 0 (by kernel_rfl)
        have ag1 := hag.kept 1 (by kernel_rfl)
        have ag2 := hag.kept 2 (by kernel_rfl)
        have ag3 := hag.kept 3 (by kernel_rfl)
        have ag4 := hag.kept 4 (by kernel_rfl)
        have ag5 := hag.kept 5 (by kernel_rfl)
        have ag6 := hag.kept 6 (by kernel_rfl)
        have ag7 : a.tmps.getD 7 undef = .slice (some ⟨gn, on, none⟩) (fs.length - 1 + 2) cn := hag.kept 7 (by kernel_rfl)
        have ag8 := hag.kept 8 (by kernel_rfl)
        have ag9 : a.tmps.getD 9 undef = .int .i64 kk := hag.kept 9 (by kernel_rfl)
        have ag11 := hag.kept 11 (by kernel_rfl)
        have ag12 := hag.kept 12 (by kernel_rfl)
        have ag13 := hag.kept 13 (by kernel_rfl)
        have ag14 := hag.kept 14 (by kernel_rfl)
        have ag15 := hag.kept 15 (by kernel_rfl)
        have ag16 := hag.kept 16 (by kernel_rfl)
        have ag17 := hag.kept 17 (by kernel_rfl)
        have ag18 := hag.kept 18 (by kernel_rfl)
        have ag19 := hag.kept 19 (by kernel_rfl)
        have ag20 := hag.kept 20 (by kernel_rfl)
        have ag21 := hag.kept 21 (by kernel_rfl)
        have ag22 := hag.kept 22 (by kernel_rfl)
        have ag23 := hag.kept 23 (by kernel_rfl)
        have ag24 := hag.kept 24 (by kernel_rfl)
        have ag25 := hag.kept 25 (by kernel_rfl)
        have ag26 := hag.kept 26 (by kernel_rfl)
        have ag27 := hag.kept 27 (by kernel_rfl)
        have ag28 := hag.kept 28 (by kernel_rfl)
        have ag29 := hag.kept 29 (by kernel_rfl)
        have ag30 := hag.kept 30 (by kernel_rfl)
        have ag31 := hag.kept 31 (by kernel_rfl)
        have ag32 := hag.kept 32 (by kernel_rfl)
        have ag33 := hag.kept 33 (by kernel_rfl)
        have ag34 := hag.kept 34 (by kernel_rfl)
        have ag35 := hag.kept 35 (by kernel_rfl)
        have ag36 := hag.kept 36 (by kernel_rfl)
        have ag37 := hag.kept 37 (by kernel_rfl)
        have ag38 := hag.kept 38 (by kernel_rfl)
        have ag39 := hag.kept 39 (by kernel_rfl)
        have ag40 := hag.kept 40 (by kernel_rfl)
        have ag41 := hag.kept 41 (by kernel_rfl)
        have ag42 := hag.kept 42 (by kernel_rfl)
        have ag43 := hag.kept 43 (by kernel_rfl)
        have ag44 := hag.kept 44 (by kernel_rfl)
        have ag45 := hag.kept 45 (by kernel_rfl)
        have ag46 := hag.kept 46 (by kernel_rfl)
        have ag47 := hag.kept 47 (by kernel_rfl)
        have ag48 := hag.kept 48 (by kernel_rfl)
        have ag49 := hag.kept 49 (by kernel_rfl)
        have ag50 := hag.kept 50 (by kernel_rfl)
        have ag51 := hag.kept 51 (by kernel_rfl)
        have ag52 := hag.kept 52 (by kernel_rfl)
        have ag53 := hag.kept 53 (by kernel_rfl)
        have ag54 := hag.kept 54 (by kernel_rfl)
        have ag55 := hag.kept 55 (by kernel_rfl)
        have ag56 := hag.kept 56 (by kernel_rfl)
        have ag57 := hag.kept 57 (by kernel_rfl)
        have ag58 := hag.kept 58 (by kernel_rfl)
        have ag67 := hag.kept 67 (by kernel_rfl)
        have ag68 := hag.kept 68 (by kernel_rfl)
        have ag69 := hag.kept 69 (by kernel_rfl)
        have ag70 := hag.kept 70 (by kernel_rfl)
        have ag71 := hag.kept 71 (by kernel_rfl)
        have ag72 := hag.kept 72 (by kernel_rfl)
        have ag73 := hag.kept 73 (by kernel_rfl)
        have ag74 := hag.kept 74 (by kernel_rfl)
        have ag75 := hag.kept 75 (by kernel_rfl)
        have ag76 := hag.kept 76 (by kernel_rfl)
        have ag77 := hag.kept 77 (by kernel_rfl)
        have ag78 := hag.kept 78 (by kernel_rfl)
        have ag79 := hag.kept 79 (by kernel_rfl)
        rw [act80pa hag.size hag.defers]
        clear hag
        have e66 : a.tmps.getD 66 undef = .agg #[.int .i64 kk, .int .i64 na, .int .i64 nb] := hd 7 (by kernel_rfl) _ rfl
        obtain ⟨xb, e10, hxb, Lx, hxlt⟩ : ∃ xb, a.tmps.getD 10 undef = .pointer (some ⟨xb, 0, none⟩) ∧ wr.heap.size ≤ xb ∧ Loc w5 xb [.int .i64 0, .int .i64 0, .int .i64 0] ∧ xb < w5.heap.size := hd 8 (by kernel_rfl) _ rfl
        rw [ag0, ag1, ag2, ag3, ag4, ag5, ag6, ag7, ag8, ag9, ag11, ag12, ag13, ag14, ag15, ag16, ag17, ag18, ag19, ag20, ag21, ag22, ag23, ag24, ag25, ag26, ag27, ag28, ag29, ag30, ag31, ag32, ag33, ag34, ag35, ag36, ag37, ag38, ag39, ag40, ag41, ag42, ag43, ag44, ag45, ag46, ag47, ag48, ag49, ag50, ag51, ag52, ag53, ag54, ag55, ag56, ag57, ag58, ag67, ag68, ag69, ag70, ag71, ag72, ag73, ag74, ag75, ag76, ag77, ag78, ag79, e66, e10]
        change wpList _ _ _ [_] _ _
        have hgx : g ≠ xb := by omega
        have c0 := (Lx 0 _ rfl).1
        have c1 := (Lx 1 _ rfl).1
        have c2 := (Lx 2 _ rfl).1
        have d0 := (Lx 0 _ rfl).2
        have d1 := (Lx 1 _ rfl).2
        have d2 := (Lx 2 _ rfl).2
        have LX := ((Lx.set (i := 0) (u := .int .i64 kk) rfl).set (i := 1) (u := .int .i64 na) rfl).set (i := 2) (u := .int .i64 nb) rfl
        have LG := (((L3.below hJ).far (g := xb) (i := 0) (u := .int .i64 kk) hgx).far (g := xb) (i := 1) (u := .int .i64 na) hgx).far (g := xb) (i := 2) (u := .int .i64 nb) hgx
        have hbJ := bl_trans hb6 hJ
        have hbX : Below w3.heap.size w3 (((w5.setCell ⟨xb, 0, none⟩ (.int .i64 kk)).setCell ⟨xb, 1, none⟩ (.int .i64 na)).setCell ⟨xb, 2, none⟩ (.int .i64 nb)) := by
         have hx3 : w3.heap.size ≤ xb := by omega
         exact Below.chg hbJ (S := [xb]) (by repeat' (with_reducible first | exact Chg.refl _ _ | refine qC ?_)) hbJ.size (by simpa using hx3)
        have x0 := (LX 0 _ rfl).1
        have x1 := (LX 1 _ rfl).1
        have x2 := (LX 2 _ rfl).1
        clear hd
        go_wp2_with fail
        refine (HC.out _).mono ?_
        rintro e w6 ⟨rfl, hb7⟩
        have hb8 := bl_trans hbX hb7
        replace LX := LX.below hb7
        replace LG := LG.below hb7
        clear c0 c1 c2 d0 d1 d2 x0 x1 x2 hb7 hbX hbJ Lx HC n0 n1
        cases bb
        ·have HQ2 : Hid (prsA s = spcTo fs na nb (kFrom (kk + 1))) := HQ.out.trans (spcTo_n1 hk1 hle HBB.out)
         go_wp2_with fail
         go_roundw
         case rel => exact ⟨kk + 1, by omega, by omega, by go_num, HQ2, hb8⟩
         case measure => simp [intOf]; omega
        ·by_cases heq : t = jnB fs
         ·have HY : Hid (prsA s = (((kk : Int), na, nb), true)) := HQ.out.trans (spcTo_y hk1 hle HBB.out HJB.out.1 (HTS.out.trans heq))
          subst heq
          have x0 := (LX 0 _ rfl).1
          have x1 := (LX 1 _ rfl).1
          have x2 := (LX 2 _ rfl).1
          have c0 := (LG 0 _ rfl).1
          have c1 := (LG 1 _ rfl).1
          have c2 := (LG 2 _ rfl).1
          have d0 := (LG 0 _ rfl).2
          have d1 := (LG 1 _ rfl).2
          have d2 := (LG 2 _ rfl).2
          have hbT : Below w.heap.size w w6 := bl_trans hb2 (bl_trans hb5 hb8)
          go_wp2_with fail
          refine bodyPost_ret (v := .tuple #[.agg #[.int .i64 kk, .int .i64 na, .int .i64 nb], .bool true]) (by simp [results, Tryd.results5, go_sem, c0, c1, c2]) rfl ⟨by rw [HY.out], by subst hg; (repeat' (first | exact Below.refl _ _ | refine qS ?_ _ | refine qA ?_ _ | refine qD ?_ | refine qN ?_ _ | refine qT ?_ (by assumption)))⟩
         ·have HQ2 : Hid (prsA s = spcTo fs na nb (kFrom (kk + 1))) := HQ.out.trans (spcTo_n2 hk1 hle HJB.out.1 (fun h => heq (HTS.out.symm.trans h)))
          have hne := toL_ne heq
          go_wp2_with fail
          go_roundw
          case rel => exact ⟨kk + 1, by omega, by omega, by go_num, HQ2, hb8⟩
          case measure => simp [intOf]; omega
      ·obtain rfl : kk = 8 := by omega
       have HY : Hid (prsA s = ((0, 0, 0), false)) := HQ.out
       have c0 := (L3 0 _ rfl).1
       have c1 := (L3 1 _ rfl).1
       have c2 := (L3 2 _ rfl).1
       have d0 := (L3 0 _ rfl).2
       have d1 := (L3 1 _ rfl).2
       have d2 := (L3 2 _ rfl).2
       have hbT : Below w.heap.size w wr := bl_trans hb2 (bl_trans hb5 hb6)
       go_wp2_with fail
       refine bodyPost_ret (v := .tuple #[.agg #[.int .i64 0, .int .i64 0, .int .i64 0], .bool false]) (by simp [results, Tryd.results5, go_sem, c0, c1, c2]) rfl ⟨by rw [HY.out], by subst hg; (repeat' (first | exact Below.refl _ _ | refine qS ?_ _ | refine qA ?_ _ | refine qD ?_ | refine qN ?_ _ | refine qT ?_ (by assumption)))⟩
  ·have hp : prsA s = ((0, 0, 0), false) := by
    unfold prsA spcA
    rw [if_pos hfb, hfs, if_pos (by omega)]
   have HP := Lib.hid hp
   have hi := inB_false.2 (show ¬ ((1 : Int) ≤ (fs.length : Int) ∧ (fs.length : Int) ≤ 3) by omega)
   clear hp
   go_wp2_with (go_at_call 12; refine (l01In_any _ _ _ _).mono ?_; rintro e wq ⟨rfl, rfl⟩; rw [hi])
   refine bodyPost_ret (v := .tuple #[.agg #[.int .i64 0, .int .i64 0, .int .i64 0], .bool false]) (by simp [results, Tryd.results5, go_sem, b0, b1, b2]) rfl ⟨by rw [HP.out], by subst hg; (repeat' (first | exact Below.refl _ _ | refine qS ?_ _ | refine qA ?_ _ | refine qD ?_ | refine qN ?_ _ | refine qT ?_ (by assumption)))⟩
 ·have hp : prsA s = ((0, 0, 0), false) := by unfold prsA; rw [if_neg hfb]
  have HP := Lib.hid hp
  rw [Bool.not_eq_true] at hfb
  rw [hfb]
  clear hp
  go_wp2_with fail
  refine bodyPost_ret (v := .tuple #[.agg #[.int .i64 0, .int .i64 0, .int .i64 0], .bool false]) (by simp [results, Tryd.results5, go_sem, b0, b1, b2]) rfl ⟨by rw [HP.out], by subst hg; (repeat' (first | exact Below.refl _ _ | refine qS ?_ _ | refine qA ?_ _ | refine qD ?_ | refine qN ?_ _ | refine qT ?_ (by assumption)))⟩
end Go.Proofs.YtminhkfbpiknkaaDoor
