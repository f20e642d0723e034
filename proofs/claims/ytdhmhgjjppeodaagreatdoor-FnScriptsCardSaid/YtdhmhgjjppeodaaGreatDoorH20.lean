/- Contracts: RunScript of the program. Conditions: the library's table of powers of ten, its sentinel of syntax, bytealg's MaxLen holds some int. Written by a program (gen_h20.py). -/
import Derived.Test.YtdhmhgjjppeodaaGreatDoorH19
import Derived.Test.YtdhmhgjjppeodaaGreatDoorBdH8x3
import Derived.Test.YtdhmhgjjppeodaaGreatDoorBdH16x2
import Derived.Test.YtdhmhgjjppeodaaGreatDoorBdZ5x9
import Derived.Test.YtdhmhgjjppeodaaGreatDoorBdK3x9
namespace Go.Proofs.YtdhmhgjjppeodaaGreatDoor
open Go.RowKit
def MaxOk (w : World) : Prop := ∃ m : Int, w.cell? ⟨1, 0, none⟩ = some (.int .i64 m)
theorem MaxOk.below {w w' : World} (h : MaxOk w) (hb : Below w.heap.size w w') : MaxOk w' := by
 obtain ⟨m, h⟩ := h
 exact ⟨m, carry hb h⟩
theorem rd_str {w : World} {g off c : Nat} {l : List ByteArray} (h : RdL cStr 1 w (.slice (some ⟨g, off, none⟩) l.length c) l) {k : Nat} {x : ByteArray} (hx : l[k]? = some x) : w.cell? ⟨g, off + k, none⟩ = some (.string x) := by
 obtain ⟨hk, he⟩ := List.getElem?_eq_some_iff.1 hx
 obtain ⟨g1, off1, hA, _, hc⟩ := h.cell cStr_len (by omega) hk
 obtain ⟨rfl, rfl⟩ : g = g1 ∧ off = off1 := by simpa using hA
 have k1 := hc 0 _ rfl
 simp only [Nat.add_zero, Nat.mul_one] at k1
 rw [k1, he]
theorem split_nl (s : ByteArray) (W : World) (hs : s.size ≤ 20000) (hm : MaxOk W) :
  Calls Tryz.prog 64 #[.string s, .string ⟨#[10]⟩] W fun e w' => ∃ g, e = .returned (.slice (some ⟨g, 0, none⟩) (splB s).length (splB s).length) ∧ w'.ownsRow 0 9 1 (.slice (some ⟨g, 0, none⟩) (splB s).length (splB s).length) (splB s).length ((splB s).flatMap cStr) ∧ (W.heap.size ≤ g ∧ g < w'.heap.size) ∧ Below W.heap.size W w' := by
 obtain ⟨m, hm⟩ := hm
 refine (lib_strings_Split s ⟨#[10]⟩ m W (by omega) hm (by decide)).mono ?_
 rintro e w' ⟨rfl, rfl⟩
 have hl := splB_len s
 have hle := splB_le s
 refine ⟨W.heap.size, by rw [hl], ?_, ⟨Nat.le_refl _, by simp⟩, (Below.refl _ _).alloc (Nat.le_refl _) _⟩
 rw [hl, flat_str]
 have h := row_all (e := 9) (size := 1) W (((splB s).map Value.string).toArray) (Lib.countB s ⟨#[10]⟩ + 1) (by simp [hl]) (by simp [maxLen]; omega)
 have h' : (W.alloc (.cells ((splB s).map Value.string).toArray 9)).ownsRow W.heap.size 9 1 (.slice (some ⟨W.heap.size, 0, none⟩) (Lib.countB s ⟨#[10]⟩ + 1) (Lib.countB s ⟨#[10]⟩ + 1)) (Lib.countB s ⟨#[10]⟩ + 1) ((splB s).map Value.string) := by simpa using h
 exact own_mono h' (Nat.zero_le _)
set_option maxHeartbeats 16000000 in
set_option maxRecDepth 100000 in
theorem implRunScript_any (s : ByteArray) (w : World) (hs : s.size ≤ 9223372036854775807) (ht : TabOk w) (he : ErrOk w) (hm : MaxOk w) :
  Calls Tryz.prog 28 #[.string s] w fun e w' => ∃ v, e = .returned (.tuple #[v, .bool (rsF s).2]) ∧ w'.ownsRow w.heap.size 9 1 v (rsF s).1.length ((rsF s).1.flatMap cStr) ∧ Below w.heap.size w w' := by
 obtain ⟨i0, hi0, hz0, hz1', hz2⟩ := info_parts infoString
 obtain ⟨iA, hiA, hzA, hzA1, hzA2⟩ := info_parts infoAct
 go_enter Tryz.func28, Tryz.ntmps28
 by_cases hbig : 20000 < s.size
 ·have hd : decide ((20000 : Int) < (s.size : Int)) = true := decide_eq_true (by omega)
  have HF : Hid (rsF s = ([], false)) := rsF_none (if_neg (by omega))
  go_wp2_with fail
  go_ret2
  exact ⟨_, by rw [HF.out]; rfl, by rw [HF.out]; exact World.ownsRow_nil _ _ _ _, Below.refl _ _⟩
 have hd : decide ((20000 : Int) < (s.size : Int)) = false := decide_eq_false (by omega)
 have hs20 : s.size ≤ 20000 := by omega
 have hown0 := World.ownsRow_made (size := 3) (e := 90) w #[] 0 (Nat.le_refl _) (by simp [maxLen]) rfl
 have hb0 : Below w.heap.size w (w.alloc (.cells #[] 90)) := (Below.refl _ _).alloc (Nat.le_refl _) _
 have HSP := Lib.hid (fun W hM => split_nl s W hs20 hM)
 have HLZ : Hid (∀ x ∈ splB s, x.size ≤ 20000) := fun x hx => Nat.le_trans (splB_sz hx) hs20
 have HLL : Hid ((splB s).length ≤ 20001) := by
  have h1 := splB_len s
  have h2 := splB_le s
  show _ ≤ _
  omega
 have HRL : Hid (rsL s = rsAll (splB s)) := if_pos hs20
 generalize hls : splB s = ls at *
 clear hls
 go_wp2_with fail
 refine (HSP.out _ (hm.below hb0)).mono ?_
 rintro e w2 ⟨g, rfl, ownL, ⟨hg1, hg2⟩, hb1⟩
 have hb2 := bl_trans hb0 hb1
 have hown2 := own_below hown0 hb1
 have hll : ls.length ≤ 20001 := HLL.out
 have HLS2 := Lib.hid ownL
 have HNE2 : Hid (∀ b ∈ (Value.slice (some ⟨w.heap.size, 0, none⟩) 0 0).ownBlock.toList, b ≠ g) := fun b hm => by
  have := (hown0.lt b (by simpa using hm)).2
  omega
 clear hown0 hb0 hb1 HSP hm HLL hbig ownL hg1
 go_wp2_with fail
 go_loopw [4, 23] (fun q i wr => ∃ (k : Nat) (l : List RAct), k ≤ ls.length ∧ i = .int .i64 k ∧ Hid (rsAll (ls.take k) = some l) ∧ l.length ≤ k ∧ wr.ownsRow w.heap.size 90 3 q l.length (l.flatMap cAct) ∧ Hid (wr.ownsRow 0 9 1 (.slice (some ⟨g, 0, none⟩) ls.length ls.length) ls.length (ls.flatMap cStr)) ∧ Hid (∀ b ∈ q.ownBlock.toList, b ≠ g) ∧ g < wr.heap.size ∧ Below w.heap.size w wr) (fun _ i _ => ls.length - (intOf i).toNat)
 case atStart => exact ⟨0, [], Nat.zero_le _, rfl, rfl, Nat.le_refl _, hown2, HLS2, HNE2, hg2, hb2⟩
 case round =>
  obtain ⟨k, l, hk, rfl, HL, hlk, hown, HLS, HNE, hgw, hb⟩ := hrel
  clear hown2 hb2 HLS2 HNE2 hg2
  have hz := hb.size
  obtain ⟨Aq, cq, rfl, _, _⟩ := (RdS.of_own hown).form
  by_cases hlt : k < ls.length
  ·have k0 := rd_str (RdS.of_own HLS.out) (List.getElem?_eq_getElem hlt)
   rw [Nat.zero_add] at k0
   have hxs := HLZ.out ls[k] (List.getElem_mem hlt)
   have HSK : Hid (fldB ls[k] = true → fldF ls[k] = [] → rsAll (ls.take (k + 1)) = some l) := fun h1 h2 => rs_skip hlt HL.out h1 h2
   have HACT : Hid (¬ (fldB ls[k] = true ∧ fldF ls[k] = []) → (prsA ls[k]).2 = true → rsAll (ls.take (k + 1)) = some (l ++ [(prsA ls[k]).1])) := fun h1 h2 => rs_act hlt HL.out h1 h2
   have HNOT : Hid (¬ (fldB ls[k] = true ∧ fldF ls[k] = []) → (prsA ls[k]).2 = false → rsAll ls = none) := fun h1 h2 => rs_no hlt HL.out h1 h2
   generalize ls[k] = x at *
   have hSF := fun W => implSplitFields_any x W (by omega)
   have hPA := fun W hW hE => implParseAct_any x W (by omega) hW hE
   unfold RetF at hSF
   obtain ⟨fb, hfb⟩ : ∃ fb, fldB x = fb := ⟨_, rfl⟩
   obtain ⟨ff, hff⟩ : ∃ ff, fldF x = ff := ⟨_, rfl⟩
   obtain ⟨pr, hpr⟩ : ∃ pr, prsA x = pr := ⟨_, rfl⟩
   rw [hfb, hff] at hSF HSK HACT HNOT
   rw [hpr] at hPA HACT HNOT
   obtain ⟨⟨pk, pa, pb⟩, pok⟩ := pr
   have HSF := Lib.hid hSF
   have HPA := Lib.hid hPA
   clear hSF hPA hfb hff hpr hxs
   go_wp2_with fail
   refine (HSF.out wr).mono ?_
   rintro e w3 ⟨vf, rfl, hrf, hb3⟩
   obtain ⟨Af, cf, rfl, _, _⟩ := hrf.form
   have hb4 := bl_trans hb hb3
   have hown4 := own_below hown hb3
   have HLS4 := Lib.hid (own_below HLS.out hb3)
   have hg4 : g < w3.heap.size := by have := hb3.size; omega
   have hz4 := hb4.size
   clear k0 hown hb hb3 HSF hrf HLS hgw
   cases fb
   ·have HAC : Hid (pok = true → rsAll (ls.take (k + 1)) = some (l ++ [(pk, pa, pb)])) := fun h => HACT.out (fun h2 => by cases h2.1) h
    have HNO : Hid (pok = false → rsAll ls = none) := fun h => HNOT.out (fun h2 => by cases h2.1) h
    clear HACT HNOT HSK
    go_wp2_with fail
    refine (HPA.out w3 (ht.below hb4) (he.below hb4)).mono ?_
    rintro e w5 ⟨rfl, hb5⟩
    have hb6 := bl_trans hb4 hb5
    have hbX : Below w.heap.size w (w5.alloc (.cells #[.int .i64 pk, .int .i64 pa, .int .i64 pb] 90)) := hb6.alloc hb6.size _
    have LX : Loc (w5.alloc (.cells #[.int .i64 pk, .int .i64 pa, .int .i64 pb] 90)) w5.heap.size [.int .i64 pk, .int .i64 pa, .int .i64 pb] := Loc.new w5 #[.int .i64 pk, .int .i64 pa, .int .i64 pb] 90
    have hownX := own_below (own_below hown4 hb5) ((Below.refl _ _).alloc (Nat.le_refl _) _ : Below w5.heap.size w5 (w5.alloc (.cells #[.int .i64 pk, .int .i64 pa, .int .i64 pb] 90)))
    have HLSX := Lib.hid (own_below (own_below HLS4.out hb5) ((Below.refl _ _).alloc (Nat.le_refl _) _ : Below w5.heap.size w5 (w5.alloc (.cells #[.int .i64 pk, .int .i64 pa, .int .i64 pb] 90))))
    have hgX : g < (w5.alloc (.cells #[.int .i64 pk, .int .i64 pa, .int .i64 pb] 90)).heap.size := by have := hb5.size; simp; omega
    clear hb5 hb6 hown4 HPA HLS4
    cases pok
    ·have HF : Hid (rsF s = ([], false)) := rsF_none (HRL.out.trans (HNO.out rfl))
     go_wp2_with fail
     go_ret2
     exact ⟨_, by rw [HF.out]; rfl, by rw [HF.out]; exact World.ownsRow_nil _ _ _ _, hbX⟩
    ·have HNX : Hid (rsAll (ls.take (k + 1)) = some (l ++ [(pk, pa, pb)])) := HAC.out rfl
     go_upto_region 10 with (fail)
     generalize w5.alloc (.cells #[.int .i64 pk, .int .i64 pa, .int .i64 pb] 90) = WX at *
     have x0 := (LX 0 _ rfl).1
     have x1 := (LX 1 _ rfl).1
     have x2 := (LX 2 _ rfl).1
     have hzX := hbX.size
     go_wp2_with (at_builtin; go_must (refine wpList_appendB _ rfl (.tmp 45) (.tmp 47) _ rfl w.heap.size 90 iA _ 3 24 Tryz.underlying31 hiA hzA hzA1 hzA2 rfl (by omega) _ l.length (l.flatMap cAct) rfl (hownX.alloc _) _ 1 [.int .i64 pk, .int .i64 pa, .int .i64 pb] rfl (rdS_new WX #[.int .i64 pk, .int .i64 pa, .int .i64 pb] _ 3 1 rfl (by simp [maxLen])) (by simp [Value.oneCell']) (by simp [maxLen]; omega) (by omega) (by simp; omega) ?_); intro v3 w6 hown6 hgr6 hat6)
     have hb7 : Below w.heap.size w w6 := (hbX.alloc hbX.size _).trans (below_own (hownX.alloc (.cells #[.int .i64 pk, .int .i64 pa, .int .i64 pb] 90)) hgr6 (by simp; omega))
     have HLS7 : Hid (w6.ownsRow 0 9 1 (.slice (some ⟨g, 0, none⟩) ls.length ls.length) ls.length (ls.flatMap cStr)) := own_chg (own_below HLSX.out ((Below.refl _ _).alloc (Nat.le_refl _) _ : Below WX.heap.size WX (WX.alloc (.cells #[.int .i64 pk, .int .i64 pa, .int .i64 pb] 90)))) (Chg.of_grown hgr6) (fun b hm hm' => HNE.out b hm' (by simpa [Value.ownBlock] using hm))
     have HNE7 : Hid (∀ b ∈ v3.ownBlock.toList, b ≠ g) := fun b hm => by
      rcases hat6 with e | e
      ·rw [e] at hm; exact HNE.out b hm
      ·rw [e] at hm; simp at hm; omega
     have hg7 : g < w6.heap.size := by have := hgr6.size; simp at this; omega
     go_wp2_with fail
     go_roundw
     case rel => exact ⟨k + 1, l ++ [(pk, pa, pb)], by omega, by go_num, HNX, by rw [List.length_append]; simp; omega, by rw [List.length_append, List.flatMap_append]; exact hown6, HLS7, HNE7, hg7, hb7⟩
     case measure => simp [intOf]; omega
   ·by_cases hfe : ff = []
    ·have HNX : Hid (rsAll (ls.take (k + 1)) = some l) := HSK.out rfl hfe
     have hfl : ((ff.length : Int) == 0) = true := by rw [hfe]; rfl
     clear HACT HNOT HSK hfe HPA
     go_wp2_with fail
     go_roundw
     case rel => exact ⟨k + 1, l, by omega, by go_num, HNX, by omega, hown4, HLS4, HNE, hg4, hb4⟩
     case measure => simp [intOf]; omega
    ·have HAC : Hid (pok = true → rsAll (ls.take (k + 1)) = some (l ++ [(pk, pa, pb)])) := fun h => HACT.out (fun h2 => hfe h2.2) h
     have HNO : Hid (pok = false → rsAll ls = none) := fun h => HNOT.out (fun h2 => hfe h2.2) h
     have hfl : ((ff.length : Int) == 0) = false := by
      rw [beq_eq_false_iff_ne]
      intro h
      exact hfe (List.length_eq_zero_iff.1 (by omega))
     clear HACT HNOT HSK hfe
     go_wp2_with fail
     refine (HPA.out w3 (ht.below hb4) (he.below hb4)).mono ?_
     rintro e w5 ⟨rfl, hb5⟩
     have hb6 := bl_trans hb4 hb5
     have hbX : Below w.heap.size w (w5.alloc (.cells #[.int .i64 pk, .int .i64 pa, .int .i64 pb] 90)) := hb6.alloc hb6.size _
     have LX : Loc (w5.alloc (.cells #[.int .i64 pk, .int .i64 pa, .int .i64 pb] 90)) w5.heap.size [.int .i64 pk, .int .i64 pa, .int .i64 pb] := Loc.new w5 #[.int .i64 pk, .int .i64 pa, .int .i64 pb] 90
     have hownX := own_below (own_below hown4 hb5) ((Below.refl _ _).alloc (Nat.le_refl _) _ : Below w5.heap.size w5 (w5.alloc (.cells #[.int .i64 pk, .int .i64 pa, .int .i64 pb] 90)))
     have HLSX := Lib.hid (own_below (own_below HLS4.out hb5) ((Below.refl _ _).alloc (Nat.le_refl _) _ : Below w5.heap.size w5 (w5.alloc (.cells #[.int .i64 pk, .int .i64 pa, .int .i64 pb] 90))))
     have hgX : g < (w5.alloc (.cells #[.int .i64 pk, .int .i64 pa, .int .i64 pb] 90)).heap.size := by have := hb5.size; simp; omega
     clear hb5 hb6 hown4 HPA HLS4
     cases pok
     ·have HF : Hid (rsF s = ([], false)) := rsF_none (HRL.out.trans (HNO.out rfl))
      go_wp2_with fail
      go_ret2
      exact ⟨_, by rw [HF.out]; rfl, by rw [HF.out]; exact World.ownsRow_nil _ _ _ _, hbX⟩
     ·have HNX : Hid (rsAll (ls.take (k + 1)) = some (l ++ [(pk, pa, pb)])) := HAC.out rfl
      go_upto_region 10 with (fail)
      generalize w5.alloc (.cells #[.int .i64 pk, .int .i64 pa, .int .i64 pb] 90) = WX at *
      have x0 := (LX 0 _ rfl).1
      have x1 := (LX 1 _ rfl).1
      have x2 := (LX 2 _ rfl).1
      have hzX := hbX.size
      go_wp2_with (at_builtin; go_must (refine wpList_appendB _ rfl (.tmp 45) (.tmp 47) _ rfl w.heap.size 90 iA _ 3 24 Tryz.underlying31 hiA hzA hzA1 hzA2 rfl (by omega) _ l.length (l.flatMap cAct) rfl (hownX.alloc _) _ 1 [.int .i64 pk, .int .i64 pa, .int .i64 pb] rfl (rdS_new WX #[.int .i64 pk, .int .i64 pa, .int .i64 pb] _ 3 1 rfl (by simp [maxLen])) (by simp [Value.oneCell']) (by simp [maxLen]; omega) (by omega) (by simp; omega) ?_); intro v3 w6 hown6 hgr6 hat6)
      have hb7 : Below w.heap.size w w6 := (hbX.alloc hbX.size _).trans (below_own (hownX.alloc (.cells #[.int .i64 pk, .int .i64 pa, .int .i64 pb] 90)) hgr6 (by simp; omega))
      have HLS7 : Hid (w6.ownsRow 0 9 1 (.slice (some ⟨g, 0, none⟩) ls.length ls.length) ls.length (ls.flatMap cStr)) := own_chg (own_below HLSX.out ((Below.refl _ _).alloc (Nat.le_refl _) _ : Below WX.heap.size WX (WX.alloc (.cells #[.int .i64 pk, .int .i64 pa, .int .i64 pb] 90)))) (Chg.of_grown hgr6) (fun b hm hm' => HNE.out b hm' (by simpa [Value.ownBlock] using hm))
      have HNE7 : Hid (∀ b ∈ v3.ownBlock.toList, b ≠ g) := fun b hm => by
       rcases hat6 with e | e
       ·rw [e] at hm; exact HNE.out b hm
       ·rw [e] at hm; simp at hm; omega
      have hg7 : g < w6.heap.size := by have := hgr6.size; simp at this; omega
      go_wp2_with fail
      go_roundw
      case rel => exact ⟨k + 1, l ++ [(pk, pa, pb)], by omega, by go_num, HNX, by rw [List.length_append]; simp; omega, by rw [List.length_append, List.flatMap_append]; exact hown6, HLS7, HNE7, hg7, hb7⟩
      case measure => simp [intOf]; omega
  ·obtain rfl : k = ls.length := by omega
   rw [List.take_length] at HL
   have HRS : Hid (rsL s = some l) := HRL.out.trans HL.out
   have htw := ht.below hb
   clear HRL HL HLZ he HLS HNE hgw ht
   by_cases h40 : l.length ≤ 40
   ·have hd4 : decide ((40 : Int) < (l.length : Int)) = false := decide_eq_false (by omega)
    have HF : Hid (rsF s = (rsOut l, true)) := rsF_t HRS.out h40
    have hra : RdL cAct 3 wr (.slice Aq l.length cq) l := RdS.of_own hown
    clear HRS hown
    go_wp2_with fail
    refine (implSampleTheatre_any wr).mono ?_
    rintro e w3 ⟨x1, x2, x3, S, rfl, ow, fr, hb3⟩
    obtain ⟨⟨A1, n1, rfl⟩, ⟨A2, n2, rfl⟩, ⟨A3, n3, rfl⟩⟩ := ow.rd.forms
    have hrt := ow.rd
    have hRA := fun W hr ha => implRunActs_any 3 60 (.slice A1 ([] : List RCross).length n1) (.slice A2 onePl.length n2) (.slice A3 ([] : List Int).length n3) (.slice Aq l.length cq) [] onePl [] l W hr ha (by decide)
    have HBD := Lib.hid (acts_bd smpT l)
    have HOU : Hid (rsOut l = (actsF smpT l).2.map numS ++ fmtT (actsF smpT l).1.n (actsF smpT l).1.m (actsF smpT l).1.cs (actsF smpT l).1.pl (actsF smpT l).1.ds) := rfl
    have HNL : Hid ((actsF smpT l).2.length ≤ 40) := (actsF_sz smpT l).2
    unfold RetRun at hRA
    rw [show (⟨3, 60, [], onePl, []⟩ : Th) = smpT from rfl] at hRA
    generalize actsF smpT l = r at *
    obtain ⟨⟨n', m', cs', pl', ds'⟩, ns⟩ := r
    have hfl := fmtT_len n' m' cs' pl' ds'
    dsimp only at hRA HBD HOU HNL
    unfold RetTI at hRA
    have HRA := Lib.hid hRA
    have hnl : ns.length ≤ 40 := HNL.out
    replace htw := htw.below hb3
    replace hra := hra.below hb3
    replace hb := bl_trans hb hb3
    clear hRA HNL ow fr hb3
    go_wp2_with fail
    refine (HRA.out w3 hrt hra).mono ?_
    rintro e w4 ⟨y1, y2, y3, S4, v4, SN, rfl, ow4, fr4, on4, fn4, hdj, hb4⟩
    have hr4 := ow4.rd
    have hn4 : RdL cInt 1 w4 v4 ns := on4.rd
    obtain ⟨⟨B1, k1, rfl⟩, ⟨B2, k2, rfl⟩, ⟨B3, k3, rfl⟩⟩ := hr4.forms
    obtain ⟨B4, k4, rfl, _, _⟩ := hn4.form
    replace htw := htw.below hb4
    replace hb := bl_trans hb hb4
    clear ow4 fr4 on4 fn4 hdj hb4 HRA hrt hra
    have hbX : Below w.heap.size w (w4.alloc (.cells #[.int .i64 n', .slice B1 cs'.length k1, .slice B2 pl'.length k2, .slice B3 ds'.length k3, .int .i64 m'] 30)) := hb.alloc hb.size _
    have hbY : Below w4.heap.size w4 (w4.alloc (.cells #[.int .i64 n', .slice B1 cs'.length k1, .slice B2 pl'.length k2, .slice B3 ds'.length k3, .int .i64 m'] 30)) := (Below.refl _ _).alloc (Nat.le_refl _) _
    have Lt : Loc (w4.alloc (.cells #[.int .i64 n', .slice B1 cs'.length k1, .slice B2 pl'.length k2, .slice B3 ds'.length k3, .int .i64 m'] 30)) w4.heap.size [.int .i64 n', .slice B1 cs'.length k1, .slice B2 pl'.length k2, .slice B3 ds'.length k3, .int .i64 m'] := Loc.new w4 #[.int .i64 n', .slice B1 cs'.length k1, .slice B2 pl'.length k2, .slice B3 ds'.length k3, .int .i64 m'] 30
    replace hr4 := hr4.below hbY
    replace hn4 := hn4.below hbY
    replace htw := htw.below hbY
    clear hb hbY
    go_upto_region 17 with (fail)
    obtain ⟨gt, hgt⟩ : ∃ gt, w4.heap.size = gt := ⟨_, rfl⟩
    rw [hgt] at Lt ⊢
    generalize w4.alloc (.cells #[.int .i64 n', .slice B1 cs'.length k1, .slice B2 pl'.length k2, .slice B3 ds'.length k3, .int .i64 m'] 30) = WX at *
    clear hgt
    have hown0 := World.ownsRow_made (size := 1) (e := 9) WX #[] 0 (Nat.le_refl _) (by simp [maxLen]) rfl
    have hb0 : Below WX.heap.size WX (WX.alloc (.cells #[] 9)) := (Below.refl _ _).alloc (Nat.le_refl _) _
    go_wp2_with fail
    go_loopw [13, 62] (fun q i wr => ∃ k : Nat, k ≤ ns.length ∧ i = .int .i64 k ∧ wr.ownsRow WX.heap.size 9 1 q k (((ns.take k).map numS).flatMap cStr) ∧ Below WX.heap.size WX wr) (fun _ i _ => ns.length - (intOf i).toNat)
    case atStart => exact ⟨0, Nat.zero_le _, rfl, hown0, hb0⟩
    case round =>
     obtain ⟨k, hk, rfl, hown, hb⟩ := hrel
     clear hown0 hb0
     have hz := hb.size
     obtain ⟨Ao, co, rfl, _, _⟩ := (RdS.of_own hown).form
     by_cases hlt : k < ns.length
     ·obtain ⟨g, off, rfl, hg, hc⟩ := (hn4.below hb).cell cInt_len (by omega) hlt
      have k0 := hc 0 _ rfl
      simp only [Nat.add_zero, Nat.mul_one] at k0
      clear hc
      have HB := HBD.out ns[k] (List.getElem_mem hlt)
      have HN : Hid (((ns.take (k + 1)).map numS).flatMap cStr = ((ns.take k).map numS).flatMap cStr ++ [.string (numS ns[k])]) := by
       show _ = _
       rw [take_snoc_l ns hlt, List.map_append, List.flatMap_append]; rfl
      generalize ns[k] = x at *
      go_wp2_with fail
      refine (implFormatInt_any x wr (by omega) (by omega) (htw.below hb)).mono ?_
      rintro e w6 ⟨rfl, hb6⟩
      have hown6 := own_below hown hb6
      have hbb6 := bl_trans hb hb6
      have hz6 := hbb6.size
      clear hown hb6 k0 HB
      generalize numS x = t at *
      go_wp2_with (at_builtin; go_must (refine wpList_appendR _ rfl (.tmp 66) (.tmp 69) _ rfl WX.heap.size 9 i0 _ 1 16 Tryz.underlying34 hi0 hz0 hz1' hz2 rfl (by omega) _ k (((ns.take k).map numS).flatMap cStr) rfl (hown6.alloc _) _ 1 [.string t] rfl (rdS_new w6 #[.string t] _ 1 1 rfl (by simp [maxLen])) (by simp [Value.oneCell']) (by simp [maxLen]; omega) (by omega) (by simp; omega) ?_); intro v3 w7 hown7 hgr7)
      have hb7 : Below WX.heap.size WX w7 := (hbb6.alloc hbb6.size _).trans (below_own (hown6.alloc (.cells #[.string t] 9)) hgr7 (by simp; omega))
      go_wp2_with fail
      go_roundw
      case rel => exact ⟨k + 1, by omega, by go_num, by rw [HN.out]; exact hown7, hb7⟩
      case measure => simp [intOf]; omega
     ·obtain rfl : k = ns.length := by omega
      rw [List.take_length] at hown
      replace Lt := Lt.below hb
      replace hr4 := hr4.below hb
      replace htw := htw.below hb
      have t0 := (Lt 0 _ rfl).1
      have t1 := (Lt 1 _ rfl).1
      have t2 := (Lt 2 _ rfl).1
      have t3 := (Lt 3 _ rfl).1
      have t4 := (Lt 4 _ rfl).1
      have hFT := fun W hr hW => implFormatTheatre_any n' m' (.slice B1 cs'.length k1) (.slice B2 pl'.length k2) (.slice B3 ds'.length k3) cs' pl' ds' W hr hW
      generalize fmtT n' m' cs' pl' ds' = F at *
      have HFT := Lib.hid hFT
      clear hFT hn4 HBD
      go_wp2_with fail
      refine (HFT.out wr hr4 htw).mono ?_
      rintro e w6 ⟨vF, rfl, ownF, hb6⟩
      have hrF : RdS w6 1 vF F.length (F.flatMap cStr) := RdS.of_own ownF
      obtain ⟨AF, cF, rfl, _, _⟩ := hrF.form
      have hown6 := own_below hown hb6
      have hbb6 := bl_trans hb hb6
      have hz6 := hbb6.size
      clear hown hb6 ownF HFT t0 t1 t2 t3 t4
      go_wp2_with (at_builtin; go_must (refine wpList_appendR _ rfl (.tmp 72) (.tmp 74) _ rfl WX.heap.size 9 i0 _ 1 16 Tryz.underlying34 hi0 hz0 hz1' hz2 rfl (by omega) _ ns.length ((ns.map numS).flatMap cStr) rfl hown6 _ F.length (F.flatMap cStr) rfl hrF (fun y hy => by rw [flat_str] at hy; obtain ⟨x, _, rfl⟩ := List.mem_map.1 hy; rfl) (by simp [maxLen]; omega) (by omega) (by omega) ?_); intro v3 w7 hown7 hgr7)
      have hb7 : Below WX.heap.size WX w7 := hbb6.trans (below_own hown6 hgr7 (by omega))
      have HFIN : Hid (w7.ownsRow WX.heap.size 9 1 v3 (rsOut l).length ((rsOut l).flatMap cStr)) := by
       show World.ownsRow _ _ _ _ _ _ _
       rw [HOU.out, List.length_append, List.length_map, List.flatMap_append]
       exact hown7
      clear hown7
      go_wp2_with fail
      go_ret2
      exact ⟨_, by rw [HF.out]; rfl, by rw [HF.out]; exact own_mono HFIN.out (by have := hbX.size; omega), bl_trans hbX hb7⟩
   ·have hd4 : decide ((40 : Int) < (l.length : Int)) = true := decide_eq_true (by omega)
    have HF : Hid (rsF s = ([], false)) := rsF_long HRS.out h40
    go_wp2_with fail
    go_ret2
    exact ⟨_, by rw [HF.out]; rfl, by rw [HF.out]; exact World.ownsRow_nil _ _ _ _, hb⟩
end Go.Proofs.YtdhmhgjjppeodaaGreatDoor
