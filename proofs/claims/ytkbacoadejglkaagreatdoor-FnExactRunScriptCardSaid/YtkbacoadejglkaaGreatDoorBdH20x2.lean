/- Lemmas and contracts that this claim's theorem rests on. Conditions: those that each states. -/
import Derived.Test.YtkbacoadejglkaaGreatDoorBdH8x4
import Derived.Test.YtkbacoadejglkaaGreatDoorBdH16x3
import Derived.Test.YtkbacoadejglkaaGreatDoorH22
namespace Go.Proofs.YtkbacoadejglkaaGreatDoor
set_option maxHeartbeats 16000000
set_option maxRecDepth 100000
open Go.RowKit
def zpq (w : World) : Prop := ∃ m : Int, w.cell? ⟨0, 0, none⟩ = some (.int .i64 m)
theorem zpq.below {w w' : World} (h : zpq w) (hb : Below w.heap.size w w') : zpq w' := by
 obtain ⟨m, h⟩ := h; exact ⟨m, za5 hb h⟩
theorem zzi {w : World} {g off c : Nat} {l : List ByteArray} (h : RdL cStr 1 w (.slice (some ⟨g, off, none⟩) l.length c) l) {k : Nat} {x : ByteArray} (hx : l[k]? = some x) : w.cell? ⟨g, off + k, none⟩ = some (.string x) := by
 obtain ⟨hk, he⟩ := List.getElem?_eq_some_iff.1 hx; obtain ⟨g1, off1, hA, _, hc⟩ := h.cell zey (by omega) hk
 obtain ⟨rfl, rfl⟩ : g = g1 /\ off = off1 := by simpa using hA
 have k1 := hc 0 _ rfl
 simp only [Nat.add_zero, Nat.mul_one] at k1
 rw [k1, he]
theorem zwd (s : ByteArray) (W : World) (hs : s.size <= 20000) (hm : zpq W) :
  Calls Tryz.prog 15 #[.string s, .string ⟨#[10]⟩] W fun e w' => ∃ g, e = .returned (.slice (some ⟨g, 0, none⟩) (splB s).length (splB s).length) /\ w'.ownsRow 0 9 1 (.slice (some ⟨g, 0, none⟩) (splB s).length (splB s).length) (splB s).length ((splB s).flatMap cStr) /\ (W.heap.size <= g /\ g < w'.heap.size) /\ Below W.heap.size W w' := by
 obtain ⟨m, hm⟩ := hm; refine (lib_strings_Split s ⟨#[10]⟩ m W (by omega) hm (by decide)).mono ?_
 rintro e w' ⟨rfl, rfl⟩; have hl := zqw s; have hle := zty s; refine ⟨W.heap.size, by rw [hl], ?_, ⟨Nat.le_refl _, by simp⟩, (Below.refl _ _).alloc (Nat.le_refl _) _⟩
 rw [hl, zie]; have h := zm5 (e := 9) (size := 1) W (((splB s).map Value.string).toArray) (Lib.countB s ⟨#[10]⟩ + 1) (by simp [hl]) (by simp [maxLen]; omega)
 have h' : (W.alloc (.cells ((splB s).map Value.string).toArray 9)).ownsRow W.heap.size 9 1 (.slice (some ⟨W.heap.size, 0, none⟩) (Lib.countB s ⟨#[10]⟩ + 1) (Lib.countB s ⟨#[10]⟩ + 1)) (Lib.countB s ⟨#[10]⟩ + 1) ((splB s).map Value.string) := by simpa using h
 exact zaj h' (Nat.zero_le _)
theorem zja (s : ByteArray) (w : World) (hs : s.size <= 9223372036854775807) (ht : zhr w) (he : zog w) (hm : zpq w) :
  Calls Tryz.prog 5 #[.string s] w fun e w' => ∃ v, e = .returned (.tuple #[v, .bool (rsF s).2]) /\ w'.ownsRow w.heap.size 9 1 v (rsF s).1.length ((rsF s).1.flatMap cStr) /\ Below w.heap.size w w' := by
 obtain ⟨i0, hi0, hz0, hz1', hz2⟩ := info_parts zdb; obtain ⟨iA, hiA, hzA, hzA1, hzA2⟩ := info_parts zuh
 go_enter Tryz.func5, Tryz.ntmps5
 by_cases hbig : 20000 < s.size
 ·have hd : decide ((20000 : Int) < (s.size : Int)) = true := decide_eq_true (by omega)
  have HF : Hid (rsF s = ([], false)) := zen (if_neg (by omega))
  go_wp2_with fail; go_ret2; exact ⟨_, by rw [HF.out]; rfl, by rw [HF.out]; exact World.ownsRow_nil _ _ _ _, Below.refl _ _⟩
 have hd : decide ((20000 : Int) < (s.size : Int)) = false := decide_eq_false (by omega)
 have hs20 : s.size <= 20000 := by omega
 have hown0 := World.ownsRow_made (size := 3) (e := 30) w #[] 0 (Nat.le_refl _) (by simp [maxLen]) rfl
 have hb0 : Below w.heap.size w (w.alloc (.cells #[] 30)) := (Below.refl _ _).alloc (Nat.le_refl _) _; have HSP := Lib.hid (fun W hM => zwd s W hs20 hM)
 have HLZ : Hid (∀ x ∈ splB s, x.size <= 20000) := fun x hx => Nat.le_trans (zyq hx) hs20
 have HLL : Hid ((splB s).length <= 20001) := by
  have h1 := zqw s; have h2 := zty s
  show _ <= _
  omega
 have HRL : Hid (rsL s = zbh (splB s)) := if_pos hs20; generalize hls : splB s = ls at *
 clear hls; go_wp2_with fail; refine (HSP.out _ (hm.below hb0)).mono ?_; rintro e w2 ⟨g, rfl, ownL, ⟨hg1, hg2⟩, hb1⟩; have hb2 := zab hb0 hb1; have hown2 := zac hown0 hb1; have hll : ls.length <= 20001 := HLL.out; have HLS2 := Lib.hid ownL
 have HNE2 : Hid (∀ b ∈ (Value.slice (some ⟨w.heap.size, 0, none⟩) 0 0).ownBlock.toList, b ≠ g) := fun b hm => by
  have := (hown0.lt b (by simpa using hm)).2
  omega
 clear hown0 hb0 hb1 HSP hm HLL hbig ownL hg1; go_wp2_with fail
 go_loopw [4, 23] (fun q i wr => ∃ (k : Nat) (l : List RAct), k <= ls.length /\ i = .int .i64 k /\ Hid (zbh (ls.take k) = some l) /\ l.length <= k /\ wr.ownsRow w.heap.size 30 3 q l.length (l.flatMap cAct) /\ Hid (wr.ownsRow 0 9 1 (.slice (some ⟨g, 0, none⟩) ls.length ls.length) ls.length (ls.flatMap cStr)) /\ Hid (∀ b ∈ q.ownBlock.toList, b ≠ g) /\ g < wr.heap.size /\ Below w.heap.size w wr) (fun _ i _ => ls.length - (intOf i).toNat)
 case atStart => exact ⟨0, [], Nat.zero_le _, rfl, rfl, Nat.le_refl _, hown2, HLS2, HNE2, hg2, hb2⟩
 case round =>
  obtain ⟨k, l, hk, rfl, HL, hlk, hown, HLS, HNE, hgw, hb⟩ := hrel; clear hown2 hb2 HLS2 HNE2 hg2; have hz := hb.size; obtain ⟨Aq, cq, rfl, _, _⟩ := (RdS.of_own hown).form
  by_cases hlt : k < ls.length
  ·have k0 := zzi (RdS.of_own HLS.out) (List.getElem?_eq_getElem hlt)
   rw [Nat.zero_add] at k0; have hxs := HLZ.out ls[k] (List.getElem_mem hlt); have HSK : Hid (fldB ls[k] = true -> fldF ls[k] = [] -> zbh (ls.take (k + 1)) = some l) := fun h1 h2 => zyb hlt HL.out h1 h2
   have HACT : Hid (¬ (fldB ls[k] = true /\ fldF ls[k] = []) -> (prsA ls[k]).2 = true -> zbh (ls.take (k + 1)) = some (l ++ [(prsA ls[k]).1])) := fun h1 h2 => zzw hlt HL.out h1 h2
   have HNOT : Hid (¬ (fldB ls[k] = true /\ fldF ls[k] = []) -> (prsA ls[k]).2 = false -> zbh ls = none) := fun h1 h2 => z0g hlt HL.out h1 h2
   generalize ls[k] = x at *
   have hSF := fun W => zee x W (by omega)
   have hPA := fun W hW hE => zj1 x W (by omega) hW hE
   unfold RetF at hSF; obtain ⟨fb, hfb⟩ : ∃ fb, fldB x = fb := ⟨_, rfl⟩; obtain ⟨ff, hff⟩ : ∃ ff, fldF x = ff := ⟨_, rfl⟩; obtain ⟨pr, hpr⟩ : ∃ pr, prsA x = pr := ⟨_, rfl⟩; rw [hfb, hff] at hSF HSK HACT HNOT; rw [hpr] at hPA HACT HNOT; obtain ⟨⟨pk, pa, pb⟩, pok⟩ := pr; have HSF := Lib.hid hSF; have HPA := Lib.hid hPA; clear hSF hPA hfb hff hpr hxs; go_wp2_with fail; refine (HSF.out wr).mono ?_; rintro e w3 ⟨vf, rfl, hrf, hb3⟩; obtain ⟨Af, cf, rfl, _, _⟩ := hrf.form; have hb4 := zab hb hb3; have hown4 := zac hown hb3; have HLS4 := Lib.hid (zac HLS.out hb3); have hg4 : g < w3.heap.size := by have := hb3.size; omega
   have hz4 := hb4.size; clear k0 hown hb hb3 HSF hrf HLS hgw
   cases fb
   ·have HAC : Hid (pok = true -> zbh (ls.take (k + 1)) = some (l ++ [(pk, pa, pb)])) := fun h => HACT.out (fun h2 => by cases h2.1) h
    have HNO : Hid (pok = false -> zbh ls = none) := fun h => HNOT.out (fun h2 => by cases h2.1) h
    clear HACT HNOT HSK; go_wp2_with fail; refine (HPA.out w3 (ht.below hb4) (he.below hb4)).mono ?_; rintro e w5 ⟨rfl, hb5⟩; have hb6 := zab hb4 hb5; have hbX : Below w.heap.size w (w5.alloc (.cells #[.int .i64 pk, .int .i64 pa, .int .i64 pb] 30)) := hb6.alloc hb6.size _; have LX : Loc (w5.alloc (.cells #[.int .i64 pk, .int .i64 pa, .int .i64 pb] 30)) w5.heap.size [.int .i64 pk, .int .i64 pa, .int .i64 pb] := Loc.new w5 #[.int .i64 pk, .int .i64 pa, .int .i64 pb] 30; have hownX := zac (zac hown4 hb5) ((Below.refl _ _).alloc (Nat.le_refl _) _ : Below w5.heap.size w5 (w5.alloc (.cells #[.int .i64 pk, .int .i64 pa, .int .i64 pb] 30))); have HLSX := Lib.hid (zac (zac HLS4.out hb5) ((Below.refl _ _).alloc (Nat.le_refl _) _ : Below w5.heap.size w5 (w5.alloc (.cells #[.int .i64 pk, .int .i64 pa, .int .i64 pb] 30)))); have hgX : g < (w5.alloc (.cells #[.int .i64 pk, .int .i64 pa, .int .i64 pb] 30)).heap.size := by have := hb5.size; simp; omega
    clear hb5 hb6 hown4 HPA HLS4
    cases pok
    ·have HF : Hid (rsF s = ([], false)) := zen (HRL.out.trans (HNO.out rfl))
     go_wp2_with fail; go_ret2; exact ⟨_, by rw [HF.out]; rfl, by rw [HF.out]; exact World.ownsRow_nil _ _ _ _, hbX⟩
    ·have HNX : Hid (zbh (ls.take (k + 1)) = some (l ++ [(pk, pa, pb)])) := HAC.out rfl
     go_upto_region 10 with (fail)
     generalize w5.alloc (.cells #[.int .i64 pk, .int .i64 pa, .int .i64 pb] 30) = WX at *
     obtain ⟨x0, x1, x2⟩ := LX.a3; have hzX := hbX.size
     go_wp2_with (at_builtin; go_must (refine zae _ rfl (.tmp 45) (.tmp 47) _ rfl w.heap.size 30 iA _ 3 24 Tryz.underlying28 hiA hzA hzA1 hzA2 rfl (by omega) _ l.length (l.flatMap cAct) rfl (hownX.alloc _) _ 1 [.int .i64 pk, .int .i64 pa, .int .i64 pb] rfl (zap WX #[.int .i64 pk, .int .i64 pa, .int .i64 pb] _ 3 1 rfl (by simp [maxLen])) (by simp [Value.oneCell']) (by simp [maxLen]; omega) (by omega) (by simp; omega) ?_); intro v3 w6 hown6 hgr6 hat6)
     have hb7 : Below w.heap.size w w6 := (hbX.alloc hbX.size _).trans (zag (hownX.alloc (.cells #[.int .i64 pk, .int .i64 pa, .int .i64 pb] 30)) hgr6 (by simp; omega))
     have HLS7 : Hid (w6.ownsRow 0 9 1 (.slice (some ⟨g, 0, none⟩) ls.length ls.length) ls.length (ls.flatMap cStr)) := za0 (zac HLSX.out ((Below.refl _ _).alloc (Nat.le_refl _) _ : Below WX.heap.size WX (WX.alloc (.cells #[.int .i64 pk, .int .i64 pa, .int .i64 pb] 30)))) (Chg.of_grown hgr6) (fun b hm hm' => HNE.out b hm' (by simpa [Value.ownBlock] using hm))
     have HNE7 : Hid (∀ b ∈ v3.ownBlock.toList, b ≠ g) := fun b hm => by
      rcases hat6 with e | e
      ·rw [e] at hm; exact HNE.out b hm
      ·rw [e] at hm; simp at hm; omega
     have hg7 : g < w6.heap.size := by have := hgr6.size; simp at this; omega
     go_wp2_with fail; go_roundw
     case rel => exact ⟨k + 1, l ++ [(pk, pa, pb)], by omega, by go_num, HNX, by rw [List.length_append]; simp; omega, by rw [List.length_append, List.flatMap_append]; exact hown6, HLS7, HNE7, hg7, hb7⟩
     case measure => simp [intOf]; omega
   ·by_cases hfe : ff = []
    ·have HNX : Hid (zbh (ls.take (k + 1)) = some l) := HSK.out rfl hfe
     have hfl : ((ff.length : Int) == 0) = true := by rw [hfe]; rfl
     clear HACT HNOT HSK hfe HPA; go_wp2_with fail; go_roundw
     case rel => exact ⟨k + 1, l, by omega, by go_num, HNX, by omega, hown4, HLS4, HNE, hg4, hb4⟩
     case measure => simp [intOf]; omega
    ·have HAC : Hid (pok = true -> zbh (ls.take (k + 1)) = some (l ++ [(pk, pa, pb)])) := fun h => HACT.out (fun h2 => hfe h2.2) h
     have HNO : Hid (pok = false -> zbh ls = none) := fun h => HNOT.out (fun h2 => hfe h2.2) h
     have hfl : ((ff.length : Int) == 0) = false := by
      rw [beq_eq_false_iff_ne]; intro h; exact hfe (List.length_eq_zero_iff.1 (by omega))
     clear HACT HNOT HSK hfe; go_wp2_with fail; refine (HPA.out w3 (ht.below hb4) (he.below hb4)).mono ?_; rintro e w5 ⟨rfl, hb5⟩; have hb6 := zab hb4 hb5; have hbX : Below w.heap.size w (w5.alloc (.cells #[.int .i64 pk, .int .i64 pa, .int .i64 pb] 30)) := hb6.alloc hb6.size _; have LX : Loc (w5.alloc (.cells #[.int .i64 pk, .int .i64 pa, .int .i64 pb] 30)) w5.heap.size [.int .i64 pk, .int .i64 pa, .int .i64 pb] := Loc.new w5 #[.int .i64 pk, .int .i64 pa, .int .i64 pb] 30; have hownX := zac (zac hown4 hb5) ((Below.refl _ _).alloc (Nat.le_refl _) _ : Below w5.heap.size w5 (w5.alloc (.cells #[.int .i64 pk, .int .i64 pa, .int .i64 pb] 30))); have HLSX := Lib.hid (zac (zac HLS4.out hb5) ((Below.refl _ _).alloc (Nat.le_refl _) _ : Below w5.heap.size w5 (w5.alloc (.cells #[.int .i64 pk, .int .i64 pa, .int .i64 pb] 30)))); have hgX : g < (w5.alloc (.cells #[.int .i64 pk, .int .i64 pa, .int .i64 pb] 30)).heap.size := by have := hb5.size; simp; omega
     clear hb5 hb6 hown4 HPA HLS4
     cases pok
     ·have HF : Hid (rsF s = ([], false)) := zen (HRL.out.trans (HNO.out rfl))
      go_wp2_with fail; go_ret2; exact ⟨_, by rw [HF.out]; rfl, by rw [HF.out]; exact World.ownsRow_nil _ _ _ _, hbX⟩
     ·have HNX : Hid (zbh (ls.take (k + 1)) = some (l ++ [(pk, pa, pb)])) := HAC.out rfl
      go_upto_region 10 with (fail)
      generalize w5.alloc (.cells #[.int .i64 pk, .int .i64 pa, .int .i64 pb] 30) = WX at *
      obtain ⟨x0, x1, x2⟩ := LX.a3; have hzX := hbX.size
      go_wp2_with (at_builtin; go_must (refine zae _ rfl (.tmp 45) (.tmp 47) _ rfl w.heap.size 30 iA _ 3 24 Tryz.underlying28 hiA hzA hzA1 hzA2 rfl (by omega) _ l.length (l.flatMap cAct) rfl (hownX.alloc _) _ 1 [.int .i64 pk, .int .i64 pa, .int .i64 pb] rfl (zap WX #[.int .i64 pk, .int .i64 pa, .int .i64 pb] _ 3 1 rfl (by simp [maxLen])) (by simp [Value.oneCell']) (by simp [maxLen]; omega) (by omega) (by simp; omega) ?_); intro v3 w6 hown6 hgr6 hat6)
      have hb7 : Below w.heap.size w w6 := (hbX.alloc hbX.size _).trans (zag (hownX.alloc (.cells #[.int .i64 pk, .int .i64 pa, .int .i64 pb] 30)) hgr6 (by simp; omega))
      have HLS7 : Hid (w6.ownsRow 0 9 1 (.slice (some ⟨g, 0, none⟩) ls.length ls.length) ls.length (ls.flatMap cStr)) := za0 (zac HLSX.out ((Below.refl _ _).alloc (Nat.le_refl _) _ : Below WX.heap.size WX (WX.alloc (.cells #[.int .i64 pk, .int .i64 pa, .int .i64 pb] 30)))) (Chg.of_grown hgr6) (fun b hm hm' => HNE.out b hm' (by simpa [Value.ownBlock] using hm))
      have HNE7 : Hid (∀ b ∈ v3.ownBlock.toList, b ≠ g) := fun b hm => by
       rcases hat6 with e | e
       ·rw [e] at hm; exact HNE.out b hm
       ·rw [e] at hm; simp at hm; omega
      have hg7 : g < w6.heap.size := by have := hgr6.size; simp at this; omega
      go_wp2_with fail; go_roundw
      case rel => exact ⟨k + 1, l ++ [(pk, pa, pb)], by omega, by go_num, HNX, by rw [List.length_append]; simp; omega, by rw [List.length_append, List.flatMap_append]; exact hown6, HLS7, HNE7, hg7, hb7⟩
      case measure => simp [intOf]; omega
  ·obtain rfl : k = ls.length := by omega
   rw [List.take_length] at HL; have HRS : Hid (rsL s = some l) := HRL.out.trans HL.out; have htw := ht.below hb; clear HRL HL HLZ he HLS HNE hgw ht
   by_cases h40 : l.length <= 40
   ·have hd4 : decide ((40 : Int) < (l.length : Int)) = false := decide_eq_false (by omega)
    have HF : Hid (rsF s = (zjv l, true)) := zzv HRS.out h40; have hra : RdL cAct 3 wr (.slice Aq l.length cq) l := RdS.of_own hown; clear HRS hown; go_wp2_with fail; refine (zgl wr).mono ?_; rintro e w3 ⟨x1, x2, x3, S, rfl, ow, fr, hb3⟩; obtain ⟨⟨A1, n1, rfl⟩, ⟨A2, n2, rfl⟩, ⟨A3, n3, rfl⟩⟩ := ow.rd.forms; have hrt := ow.rd; have hRA := fun W hr ha => zk8 3 60 (.slice A1 ([] : List zad).length n1) (.slice A2 zft.length n2) (.slice A3 ([] : List Int).length n3) (.slice Aq l.length cq) [] zft [] l W hr ha (by decide)
    have HBD := Lib.hid (zub smpT l); have HOU : Hid (zjv l = (zci smpT l).2.map numS ++ fmtT (zci smpT l).1.n (zci smpT l).1.m (zci smpT l).1.cs (zci smpT l).1.pl (zci smpT l).1.ds) := rfl; have HNL : Hid ((zci smpT l).2.length <= 40) := (zml smpT l).2; unfold zo5 at hRA; rw [show (⟨3, 60, [], zft, []⟩ : Th) = smpT from rfl] at hRA
    generalize zci smpT l = r at *
    obtain ⟨⟨n', m', cs', pl', ds'⟩, ns⟩ := r; have hfl := znb n' m' cs' pl' ds'
    dsimp only at hRA HBD HOU HNL
    unfold zv5 at hRA; have HRA := Lib.hid hRA; have hnl : ns.length <= 40 := HNL.out; replace htw := htw.below hb3; replace hra := hra.below hb3; replace hb := zab hb hb3; clear hRA HNL ow fr hb3; go_wp2_with fail; refine (HRA.out w3 hrt hra).mono ?_; rintro e w4 ⟨y1, y2, y3, S4, v4, SN, rfl, ow4, fr4, on4, fn4, hdj, hb4⟩; have hr4 := ow4.rd; have hn4 : RdL cInt 1 w4 v4 ns := on4.rd; obtain ⟨⟨B1, k1, rfl⟩, ⟨B2, k2, rfl⟩, ⟨B3, k3, rfl⟩⟩ := hr4.forms; obtain ⟨B4, k4, rfl, _, _⟩ := hn4.form; replace htw := htw.below hb4; replace hb := zab hb hb4; clear ow4 fr4 on4 fn4 hdj hb4 HRA hrt hra; have hbX : Below w.heap.size w (w4.alloc (.cells #[.int .i64 n', .slice B1 cs'.length k1, .slice B2 pl'.length k2, .slice B3 ds'.length k3, .int .i64 m'] 39)) := hb.alloc hb.size _; have hbY : Below w4.heap.size w4 (w4.alloc (.cells #[.int .i64 n', .slice B1 cs'.length k1, .slice B2 pl'.length k2, .slice B3 ds'.length k3, .int .i64 m'] 39)) := (Below.refl _ _).alloc (Nat.le_refl _) _
    have Lt : Loc (w4.alloc (.cells #[.int .i64 n', .slice B1 cs'.length k1, .slice B2 pl'.length k2, .slice B3 ds'.length k3, .int .i64 m'] 39)) w4.heap.size [.int .i64 n', .slice B1 cs'.length k1, .slice B2 pl'.length k2, .slice B3 ds'.length k3, .int .i64 m'] := Loc.new w4 #[.int .i64 n', .slice B1 cs'.length k1, .slice B2 pl'.length k2, .slice B3 ds'.length k3, .int .i64 m'] 39; replace hr4 := hr4.below hbY; replace hn4 := hn4.below hbY; replace htw := htw.below hbY; clear hb hbY
    go_upto_region 17 with (fail)
    obtain ⟨gt, hgt⟩ : ∃ gt, w4.heap.size = gt := ⟨_, rfl⟩; rw [hgt] at Lt ⊢; generalize w4.alloc (.cells #[.int .i64 n', .slice B1 cs'.length k1, .slice B2 pl'.length k2, .slice B3 ds'.length k3, .int .i64 m'] 39) = WX at *
    clear hgt; have hown0 := World.ownsRow_made (size := 1) (e := 9) WX #[] 0 (Nat.le_refl _) (by simp [maxLen]) rfl
    have hb0 : Below WX.heap.size WX (WX.alloc (.cells #[] 9)) := (Below.refl _ _).alloc (Nat.le_refl _) _; go_wp2_with fail
    go_loopw [13, 62] (fun q i wr => ∃ k : Nat, k <= ns.length /\ i = .int .i64 k /\ wr.ownsRow WX.heap.size 9 1 q k (((ns.take k).map numS).flatMap cStr) /\ Below WX.heap.size WX wr) (fun _ i _ => ns.length - (intOf i).toNat)
    case atStart => exact ⟨0, Nat.zero_le _, rfl, hown0, hb0⟩
    case round =>
     obtain ⟨k, hk, rfl, hown, hb⟩ := hrel; clear hown0 hb0; have hz := hb.size; obtain ⟨Ao, co, rfl, _, _⟩ := (RdS.of_own hown).form
     by_cases hlt : k < ns.length
     ·obtain ⟨g, off, rfl, hg, hc⟩ := (hn4.below hb).cell zat (by omega) hlt
      have k0 := hc 0 _ rfl
      simp only [Nat.add_zero, Nat.mul_one] at k0
      clear hc; have HB := HBD.out ns[k] (List.getElem_mem hlt)
      have HN : Hid (((ns.take (k + 1)).map numS).flatMap cStr = ((ns.take k).map numS).flatMap cStr ++ [.string (numS ns[k])]) := by
       show _ = _
       rw [zbm ns hlt, List.map_append, List.flatMap_append]; rfl
      generalize ns[k] = x at *
      go_wp2_with fail; refine (zb3 x wr (by omega) (by omega) (htw.below hb)).mono ?_
      rintro e w6 ⟨rfl, hb6⟩; have hown6 := zac hown hb6; have hbb6 := zab hb hb6; have hz6 := hbb6.size; clear hown hb6 k0 HB; generalize numS x = t at *
      go_wp2_with (at_builtin; go_must (refine zaf _ rfl (.tmp 66) (.tmp 69) _ rfl WX.heap.size 9 i0 _ 1 16 Tryz.underlying22 hi0 hz0 hz1' hz2 rfl (by omega) _ k (((ns.take k).map numS).flatMap cStr) rfl (hown6.alloc _) _ 1 [.string t] rfl (zap w6 #[.string t] _ 1 1 rfl (by simp [maxLen])) (by simp [Value.oneCell']) (by simp [maxLen]; omega) (by omega) (by simp; omega) ?_); intro v3 w7 hown7 hgr7)
      have hb7 : Below WX.heap.size WX w7 := (hbb6.alloc hbb6.size _).trans (zag (hown6.alloc (.cells #[.string t] 9)) hgr7 (by simp; omega))
      go_wp2_with fail; go_roundw
      case rel => exact ⟨k + 1, by omega, by go_num, by rw [HN.out]; exact hown7, hb7⟩
      case measure => simp [intOf]; omega
     ·obtain rfl : k = ns.length := by omega
      rw [List.take_length] at hown; replace Lt := Lt.below hb; replace hr4 := hr4.below hb; replace htw := htw.below hb; obtain ⟨t0, t1, t2, t3, t4⟩ := Lt.a5; have hFT := fun W hr hW => zf1 n' m' (.slice B1 cs'.length k1) (.slice B2 pl'.length k2) (.slice B3 ds'.length k3) cs' pl' ds' W hr hW
      generalize fmtT n' m' cs' pl' ds' = F at *
      have HFT := Lib.hid hFT; clear hFT hn4 HBD; go_wp2_with fail; refine (HFT.out wr hr4 htw).mono ?_; rintro e w6 ⟨vF, rfl, ownF, hb6⟩; have hrF : RdS w6 1 vF F.length (F.flatMap cStr) := RdS.of_own ownF; obtain ⟨AF, cF, rfl, _, _⟩ := hrF.form; have hown6 := zac hown hb6; have hbb6 := zab hb hb6; have hz6 := hbb6.size; clear hown hb6 ownF HFT t0 t1 t2 t3 t4
      go_wp2_with (at_builtin; go_must (refine zaf _ rfl (.tmp 72) (.tmp 74) _ rfl WX.heap.size 9 i0 _ 1 16 Tryz.underlying22 hi0 hz0 hz1' hz2 rfl (by omega) _ ns.length ((ns.map numS).flatMap cStr) rfl hown6 _ F.length (F.flatMap cStr) rfl hrF (fun y hy => by rw [zie] at hy; obtain ⟨x, _, rfl⟩ := List.mem_map.1 hy; rfl) (by simp [maxLen]; omega) (by omega) (by omega) ?_); intro v3 w7 hown7 hgr7)
      have hb7 : Below WX.heap.size WX w7 := hbb6.trans (zag hown6 hgr7 (by omega))
      have HFIN : Hid (w7.ownsRow WX.heap.size 9 1 v3 (zjv l).length ((zjv l).flatMap cStr)) := by
       show World.ownsRow _ _ _ _ _ _ _
       rw [HOU.out, List.length_append, List.length_map, List.flatMap_append]; exact hown7
      clear hown7; go_wp2_with fail; go_ret2; exact ⟨_, by rw [HF.out]; rfl, by rw [HF.out]; exact zaj HFIN.out (by have := hbX.size; omega), zab hbX hb7⟩
   ·have hd4 : decide ((40 : Int) < (l.length : Int)) = true := decide_eq_true (by omega)
    have HF : Hid (rsF s = ([], false)) := zqr HRS.out h40; go_wp2_with fail; go_ret2; exact ⟨_, by rw [HF.out]; rfl, by rw [HF.out]; exact World.ownsRow_nil _ _ _ _, hb⟩
theorem zij (s : ByteArray) (w : World) (hs : s.size <= 9223372036854775807) :
  Calls Tryz.prog 4 #[.string s] w fun e w' => ∃ v, e = .returned (.tuple #[v, .bool (rsF s).2]) /\ w'.ownsRow w.heap.size 9 1 v (rsF s).1.length ((rsF s).1.flatMap cStr) /\ Below w.heap.size w w' := by
 obtain ⟨i0, hi0, hz0, hz1', hz2⟩ := info_parts zdb; obtain ⟨iA, hiA, hzA, hzA1, hzA2⟩ := info_parts zuh; have HN1 := Lib.hid (World.ownsRow_made (size := 1) (e := 9) w #[] 0 (Nat.le_refl _) (by simp [maxLen]) rfl)
 have hbw : Below w.heap.size w (w.alloc (.cells #[] 9)) := (Below.refl _ _).alloc (Nat.le_refl _) _
 go_enter Tryz.func4, Tryz.ntmps4
 go_upto_region 2 with (fail)
 generalize w.alloc (.cells #[] 9) = W1 at *
 by_cases hbig : 20000 < s.size
 ·have hd : decide ((20000 : Int) < (s.size : Int)) = true := decide_eq_true (by omega)
  have HF : Hid (rsF s = ([], false)) := zen (if_neg (by omega))
  go_wp2_with fail; go_ret2; exact ⟨_, by rw [HF.out]; rfl, by rw [HF.out]; exact HN1.out, hbw⟩
 have hd : decide ((20000 : Int) < (s.size : Int)) = false := decide_eq_false (by omega)
 have hs20 : s.size <= 20000 := by omega
 have HRL : Hid (rsL s = zbh (splB s)) := if_pos hs20; have hown0 := World.ownsRow_made (size := 3) (e := 30) W1 #[] 0 (Nat.le_refl _) (by simp [maxLen]) rfl
 have hb0 : Below W1.heap.size W1 (W1.alloc (.cells #[] 30)) := (Below.refl _ _).alloc (Nat.le_refl _) _; clear hbig; go_wp2_with fail
 go_loopw [5, 6, 7] (fun q bq i wr => ∃ (k b : Nat) (l : List RAct), k <= s.size + 1 /\ i = .int .i64 k /\ bq = .int .i64 b /\ Hid (k <= s.size -> ∃ ln, LnSt s k b ln /\ zbh ln = some l) /\ Hid (k = s.size + 1 -> zbh (splB s) = some l) /\ b <= k /\ l.length <= k /\ wr.ownsRow W1.heap.size 30 3 q l.length (l.flatMap cAct) /\ Below W1.heap.size W1 wr) (fun _ _ i _ => s.size + 1 - (intOf i).toNat)
 case atStart => exact ⟨0, 0, [], Nat.zero_le _, rfl, rfl, fun _ => ⟨[], LnSt.zero s, rfl⟩, fun h => by omega, Nat.le_refl _, Nat.le_refl _, hown0, hb0⟩
 case round =>
  obtain ⟨k, b, l, hk, rfl, rfl, HST, HEND, hbk, hlk, hown, hb⟩ := hrel; clear hown0 hb0; have hz := hb.size; obtain ⟨Aq, cq, rfl, _, _⟩ := (RdS.of_own hown).form
  by_cases hle : k <= s.size
  ·have hki : (k : Int) <= (s.size : Int) := by omega
   have hb1 : (b : Int) <= (k : Int) := by omega
   by_cases hlt : k < s.size
   ·have hkl : (k : Int) < (s.size : Int) := by omega
    by_cases hc : s[k] = 10
    ·have hcnl : ∀ hlt : k < s.size, s[k] = 10 := fun _ => hc
     have h4 : ((s[k].toNat : Int) != 10) = false := by rw [bne_eq_false_iff_eq, hc]; rfl
     clear hc; have HLE := Lib.hid (fun ln (hs : LnSt s k b ln) => zq0 hs (by omega) hcnl)
     clear hcnl; have hx : (s.extract b k).size <= 20000 := by rw [ByteArray.size_extract]; omega
     obtain ⟨ln, hst, hrs⟩ := HST.out (by omega)
     have HSKIP : Hid (zbh (ln ++ [s.extract b k]) = some l -> (k + 1 <= s.size -> ∃ ln', LnSt s (k + 1) (k + 1) ln' /\ zbh ln' = some l) /\ (k + 1 = s.size + 1 -> zbh (splB s) = some l)) := fun h => ⟨fun h2 => ⟨_, (HLE.out ln hst).2.1 h2, h⟩, fun h2 => by rw [(HLE.out ln hst).2.2 h2]; exact h⟩
     have HACT0 : Hid (∀ l', zbh (ln ++ [s.extract b k]) = some l' -> (k + 1 <= s.size -> ∃ ln', LnSt s (k + 1) (k + 1) ln' /\ zbh ln' = some l') /\ (k + 1 = s.size + 1 -> zbh (splB s) = some l')) := fun l' h => ⟨fun h2 => ⟨_, (HLE.out ln hst).2.1 h2, h⟩, fun h2 => by rw [(HLE.out ln hst).2.2 h2]; exact h⟩
     have HBAD0 : Hid (zbh (ln ++ [s.extract b k]) = none -> zbh (splB s) = none) := (HLE.out ln hst).1; have HRS : Hid (zbh (ln ++ [s.extract b k]) = zfu (some l) (s.extract b k)) := by show _ = _; rw [zxv, hrs]
     clear HLE hst hrs HST HEND; have hSF := fun W => zc6 (s.extract b k) W (by omega)
     have hPA := fun W => zfv (s.extract b k) W (by omega)
     unfold RetF at hSF; obtain ⟨fb, hfb⟩ : ∃ fb, fldB (s.extract b k) = fb := ⟨_, rfl⟩; obtain ⟨ff, hff⟩ : ∃ ff, fldF (s.extract b k) = ff := ⟨_, rfl⟩; obtain ⟨pr, hpr⟩ : ∃ pr, prsA (s.extract b k) = pr := ⟨_, rfl⟩; have hrs2 := HRS.out; unfold zfu at hrs2; rw [hfb, hff, hpr] at hrs2; rw [hfb, hff] at hSF; rw [hpr] at hPA; have HRS2 := Lib.hid hrs2; obtain ⟨⟨pk, pa, pb⟩, pok⟩ := pr; have HSF := Lib.hid hSF; have HPA := Lib.hid hPA; clear hSF hPA hfb hff hpr hx HRS hrs2; go_wp2_with fail; refine (HSF.out wr).mono ?_; rintro e w3 ⟨vf, rfl, hrf, hb3⟩; obtain ⟨Af, cf, rfl, _, _⟩ := hrf.form; have hb4 := zab hb hb3; have hown4 := zac hown hb3; have hz4 := hb4.size; clear hown hb hb3 HSF hrf; have HSK2 : Hid (fb = true /\ ff = [] -> (k + 1 <= s.size -> ∃ ln', LnSt s (k + 1) (k + 1) ln' /\ zbh ln' = some l) /\ (k + 1 = s.size + 1 -> zbh (splB s) = some l)) := fun h => HSKIP.out (HRS2.out.trans (if_pos h))
     have HACT : Hid (¬ (fb = true /\ ff = []) -> pok = true -> (k + 1 <= s.size -> ∃ ln', LnSt s (k + 1) (k + 1) ln' /\ zbh ln' = some (l ++ [(pk, pa, pb)])) /\ (k + 1 = s.size + 1 -> zbh (splB s) = some (l ++ [(pk, pa, pb)]))) := fun h h2 => HACT0.out _ (HRS2.out.trans ((if_neg h).trans (if_pos h2)))
     have HBAD : Hid (¬ (fb = true /\ ff = []) -> pok = false -> zbh (splB s) = none) := fun h h2 => HBAD0.out (HRS2.out.trans ((if_neg h).trans (if_neg (fun h3 => by rw [show pok = false from h2] at h3; cases h3))))
     clear HSKIP HACT0 HBAD0 HRS2
     cases fb
     ·replace HACT := Lib.hid (HACT.out (fun h => by cases h.1))
      replace HBAD := Lib.hid (HBAD.out (fun h => by cases h.1))
      clear HSK2; go_wp2_with fail; refine (HPA.out w3).mono ?_; rintro e w5 ⟨rfl, hb5⟩; have hb6 := zab hb4 hb5; have hbX : Below W1.heap.size W1 (w5.alloc (.cells #[.int .i64 pk, .int .i64 pa, .int .i64 pb] 30)) := hb6.alloc hb6.size _; have LX : Loc (w5.alloc (.cells #[.int .i64 pk, .int .i64 pa, .int .i64 pb] 30)) w5.heap.size [.int .i64 pk, .int .i64 pa, .int .i64 pb] := Loc.new w5 #[.int .i64 pk, .int .i64 pa, .int .i64 pb] 30; have hownX := zac (zac hown4 hb5) ((Below.refl _ _).alloc (Nat.le_refl _) _ : Below w5.heap.size w5 (w5.alloc (.cells #[.int .i64 pk, .int .i64 pa, .int .i64 pb] 30))); clear hb5 hb6 hown4 HPA
      cases pok
      ·have HF : Hid (rsF s = ([], false)) := zen (HRL.out.trans (HBAD.out rfl))
       go_wp2_with fail; go_ret2; exact ⟨_, by rw [HF.out]; rfl, by rw [HF.out]; exact zac HN1.out hbX, zab hbw hbX⟩
      ·have HNX := Lib.hid (HACT.out rfl)
       go_upto_region 15 with (fail)
       generalize w5.alloc (.cells #[.int .i64 pk, .int .i64 pa, .int .i64 pb] 30) = WX at *
       obtain ⟨x0, x1, x2⟩ := LX.a3; have hzX := hbX.size
       go_wp2_with (at_builtin; go_must (refine zaf _ rfl (.tmp 64) (.tmp 66) _ rfl W1.heap.size 30 iA _ 3 24 Tryz.underlying28 hiA hzA hzA1 hzA2 rfl (by omega) _ l.length (l.flatMap cAct) rfl (hownX.alloc _) _ 1 [.int .i64 pk, .int .i64 pa, .int .i64 pb] rfl (zap WX #[.int .i64 pk, .int .i64 pa, .int .i64 pb] _ 3 1 rfl (by simp [maxLen])) (by simp [Value.oneCell']) (by simp [maxLen]; omega) (by omega) (by simp; omega) ?_); intro v3 w6 hown6 hgr6)
       have hb7 : Below W1.heap.size W1 w6 := (hbX.alloc hbX.size _).trans (zag (hownX.alloc (.cells #[.int .i64 pk, .int .i64 pa, .int .i64 pb] 30)) hgr6 (by simp; omega))
       go_wp2_with fail; go_roundw
       case rel => exact ⟨k + 1, k + 1, l ++ [(pk, pa, pb)], by omega, by go_num, by go_num, HNX.out.1, HNX.out.2, Nat.le_refl _, by rw [List.length_append]; simp; omega, by rw [List.length_append, List.flatMap_append]; exact hown6, hb7⟩
       case measure => simp [intOf]; omega
     ·by_cases hfe : ff = []
      ·have HNX := Lib.hid (HSK2.out ⟨rfl, hfe⟩)
       have hfl : ((ff.length : Int) == 0) = true := by rw [hfe]; rfl
       clear HACT HBAD HSK2 hfe HPA; go_wp2_with fail; go_roundw
       case rel => exact ⟨k + 1, k + 1, l, by omega, by go_num, by go_num, HNX.out.1, HNX.out.2, Nat.le_refl _, by omega, hown4, hb4⟩
       case measure => simp [intOf]; omega
      ·replace HACT := Lib.hid (HACT.out (fun h => hfe h.2))
       replace HBAD := Lib.hid (HBAD.out (fun h => hfe h.2))
       have hfl : ((ff.length : Int) == 0) = false := by
        rw [beq_eq_false_iff_ne]; intro h; exact hfe (List.length_eq_zero_iff.1 (by omega))
       clear HSK2 hfe; go_wp2_with fail; refine (HPA.out w3).mono ?_; rintro e w5 ⟨rfl, hb5⟩; have hb6 := zab hb4 hb5; have hbX : Below W1.heap.size W1 (w5.alloc (.cells #[.int .i64 pk, .int .i64 pa, .int .i64 pb] 30)) := hb6.alloc hb6.size _; have LX : Loc (w5.alloc (.cells #[.int .i64 pk, .int .i64 pa, .int .i64 pb] 30)) w5.heap.size [.int .i64 pk, .int .i64 pa, .int .i64 pb] := Loc.new w5 #[.int .i64 pk, .int .i64 pa, .int .i64 pb] 30; have hownX := zac (zac hown4 hb5) ((Below.refl _ _).alloc (Nat.le_refl _) _ : Below w5.heap.size w5 (w5.alloc (.cells #[.int .i64 pk, .int .i64 pa, .int .i64 pb] 30))); clear hb5 hb6 hown4 HPA
       cases pok
       ·have HF : Hid (rsF s = ([], false)) := zen (HRL.out.trans (HBAD.out rfl))
        go_wp2_with fail; go_ret2; exact ⟨_, by rw [HF.out]; rfl, by rw [HF.out]; exact zac HN1.out hbX, zab hbw hbX⟩
       ·have HNX := Lib.hid (HACT.out rfl)
        go_upto_region 15 with (fail)
        generalize w5.alloc (.cells #[.int .i64 pk, .int .i64 pa, .int .i64 pb] 30) = WX at *
        obtain ⟨x0, x1, x2⟩ := LX.a3; have hzX := hbX.size
        go_wp2_with (at_builtin; go_must (refine zaf _ rfl (.tmp 64) (.tmp 66) _ rfl W1.heap.size 30 iA _ 3 24 Tryz.underlying28 hiA hzA hzA1 hzA2 rfl (by omega) _ l.length (l.flatMap cAct) rfl (hownX.alloc _) _ 1 [.int .i64 pk, .int .i64 pa, .int .i64 pb] rfl (zap WX #[.int .i64 pk, .int .i64 pa, .int .i64 pb] _ 3 1 rfl (by simp [maxLen])) (by simp [Value.oneCell']) (by simp [maxLen]; omega) (by omega) (by simp; omega) ?_); intro v3 w6 hown6 hgr6)
        have hb7 : Below W1.heap.size W1 w6 := (hbX.alloc hbX.size _).trans (zag (hownX.alloc (.cells #[.int .i64 pk, .int .i64 pa, .int .i64 pb] 30)) hgr6 (by simp; omega))
        go_wp2_with fail; go_roundw
        case rel => exact ⟨k + 1, k + 1, l ++ [(pk, pa, pb)], by omega, by go_num, by go_num, HNX.out.1, HNX.out.2, Nat.le_refl _, by rw [List.length_append]; simp; omega, by rw [List.length_append, List.flatMap_append]; exact hown6, hb7⟩
        case measure => simp [intOf]; omega
    ·have h4 : ((s[k].toNat : Int) != 10) = true := by
      rw [bne_iff_ne]; intro h; exact hc (UInt8.toNat_inj.1 (by have : (10 : UInt8).toNat = 10 := rfl; omega))
     have HNX : Hid (k + 1 <= s.size -> ∃ ln, LnSt s (k + 1) b ln /\ zbh ln = some l) := fun _ => by
      obtain ⟨ln, h1, h2⟩ := HST.out (by omega)
      exact ⟨ln, h1.other hlt hc, h2⟩
     clear hc HST HEND; go_wp2_with fail; go_roundw
     case rel => exact ⟨k + 1, b, l, by omega, by go_num, rfl, HNX, fun h => by omega, by omega, by omega, hown, hb⟩
     case measure => simp [intOf]; omega
   ·have hkl : ¬ (k : Int) < (s.size : Int) := by omega
    have hcnl : ∀ hlt : k < s.size, s[k] = 10 := fun h => absurd h hlt
    have HLE := Lib.hid (fun ln (hs : LnSt s k b ln) => zq0 hs (by omega) hcnl)
    clear hcnl; have hx : (s.extract b k).size <= 20000 := by rw [ByteArray.size_extract]; omega
    obtain ⟨ln, hst, hrs⟩ := HST.out (by omega)
    have HSKIP : Hid (zbh (ln ++ [s.extract b k]) = some l -> (k + 1 <= s.size -> ∃ ln', LnSt s (k + 1) (k + 1) ln' /\ zbh ln' = some l) /\ (k + 1 = s.size + 1 -> zbh (splB s) = some l)) := fun h => ⟨fun h2 => ⟨_, (HLE.out ln hst).2.1 h2, h⟩, fun h2 => by rw [(HLE.out ln hst).2.2 h2]; exact h⟩
    have HACT0 : Hid (∀ l', zbh (ln ++ [s.extract b k]) = some l' -> (k + 1 <= s.size -> ∃ ln', LnSt s (k + 1) (k + 1) ln' /\ zbh ln' = some l') /\ (k + 1 = s.size + 1 -> zbh (splB s) = some l')) := fun l' h => ⟨fun h2 => ⟨_, (HLE.out ln hst).2.1 h2, h⟩, fun h2 => by rw [(HLE.out ln hst).2.2 h2]; exact h⟩
    have HBAD0 : Hid (zbh (ln ++ [s.extract b k]) = none -> zbh (splB s) = none) := (HLE.out ln hst).1; have HRS : Hid (zbh (ln ++ [s.extract b k]) = zfu (some l) (s.extract b k)) := by show _ = _; rw [zxv, hrs]
    clear HLE hst hrs HST HEND; have hSF := fun W => zc6 (s.extract b k) W (by omega)
    have hPA := fun W => zfv (s.extract b k) W (by omega)
    unfold RetF at hSF; obtain ⟨fb, hfb⟩ : ∃ fb, fldB (s.extract b k) = fb := ⟨_, rfl⟩; obtain ⟨ff, hff⟩ : ∃ ff, fldF (s.extract b k) = ff := ⟨_, rfl⟩; obtain ⟨pr, hpr⟩ : ∃ pr, prsA (s.extract b k) = pr := ⟨_, rfl⟩; have hrs2 := HRS.out; unfold zfu at hrs2; rw [hfb, hff, hpr] at hrs2; rw [hfb, hff] at hSF; rw [hpr] at hPA; have HRS2 := Lib.hid hrs2; obtain ⟨⟨pk, pa, pb⟩, pok⟩ := pr; have HSF := Lib.hid hSF; have HPA := Lib.hid hPA; clear hSF hPA hfb hff hpr hx HRS hrs2; go_wp2_with fail; refine (HSF.out wr).mono ?_; rintro e w3 ⟨vf, rfl, hrf, hb3⟩; obtain ⟨Af, cf, rfl, _, _⟩ := hrf.form; have hb4 := zab hb hb3; have hown4 := zac hown hb3; have hz4 := hb4.size; clear hown hb hb3 HSF hrf; have HSK2 : Hid (fb = true /\ ff = [] -> (k + 1 <= s.size -> ∃ ln', LnSt s (k + 1) (k + 1) ln' /\ zbh ln' = some l) /\ (k + 1 = s.size + 1 -> zbh (splB s) = some l)) := fun h => HSKIP.out (HRS2.out.trans (if_pos h))
    have HACT : Hid (¬ (fb = true /\ ff = []) -> pok = true -> (k + 1 <= s.size -> ∃ ln', LnSt s (k + 1) (k + 1) ln' /\ zbh ln' = some (l ++ [(pk, pa, pb)])) /\ (k + 1 = s.size + 1 -> zbh (splB s) = some (l ++ [(pk, pa, pb)]))) := fun h h2 => HACT0.out _ (HRS2.out.trans ((if_neg h).trans (if_pos h2)))
    have HBAD : Hid (¬ (fb = true /\ ff = []) -> pok = false -> zbh (splB s) = none) := fun h h2 => HBAD0.out (HRS2.out.trans ((if_neg h).trans (if_neg (fun h3 => by rw [show pok = false from h2] at h3; cases h3))))
    clear HSKIP HACT0 HBAD0 HRS2
    cases fb
    ·replace HACT := Lib.hid (HACT.out (fun h => by cases h.1))
     replace HBAD := Lib.hid (HBAD.out (fun h => by cases h.1))
     clear HSK2; go_wp2_with fail; refine (HPA.out w3).mono ?_; rintro e w5 ⟨rfl, hb5⟩; have hb6 := zab hb4 hb5; have hbX : Below W1.heap.size W1 (w5.alloc (.cells #[.int .i64 pk, .int .i64 pa, .int .i64 pb] 30)) := hb6.alloc hb6.size _; have LX : Loc (w5.alloc (.cells #[.int .i64 pk, .int .i64 pa, .int .i64 pb] 30)) w5.heap.size [.int .i64 pk, .int .i64 pa, .int .i64 pb] := Loc.new w5 #[.int .i64 pk, .int .i64 pa, .int .i64 pb] 30; have hownX := zac (zac hown4 hb5) ((Below.refl _ _).alloc (Nat.le_refl _) _ : Below w5.heap.size w5 (w5.alloc (.cells #[.int .i64 pk, .int .i64 pa, .int .i64 pb] 30))); clear hb5 hb6 hown4 HPA
     cases pok
     ·have HF : Hid (rsF s = ([], false)) := zen (HRL.out.trans (HBAD.out rfl))
      go_wp2_with fail; go_ret2; exact ⟨_, by rw [HF.out]; rfl, by rw [HF.out]; exact zac HN1.out hbX, zab hbw hbX⟩
     ·have HNX := Lib.hid (HACT.out rfl)
      go_upto_region 15 with (fail)
      generalize w5.alloc (.cells #[.int .i64 pk, .int .i64 pa, .int .i64 pb] 30) = WX at *
      obtain ⟨x0, x1, x2⟩ := LX.a3; have hzX := hbX.size
      go_wp2_with (at_builtin; go_must (refine zaf _ rfl (.tmp 64) (.tmp 66) _ rfl W1.heap.size 30 iA _ 3 24 Tryz.underlying28 hiA hzA hzA1 hzA2 rfl (by omega) _ l.length (l.flatMap cAct) rfl (hownX.alloc _) _ 1 [.int .i64 pk, .int .i64 pa, .int .i64 pb] rfl (zap WX #[.int .i64 pk, .int .i64 pa, .int .i64 pb] _ 3 1 rfl (by simp [maxLen])) (by simp [Value.oneCell']) (by simp [maxLen]; omega) (by omega) (by simp; omega) ?_); intro v3 w6 hown6 hgr6)
      have hb7 : Below W1.heap.size W1 w6 := (hbX.alloc hbX.size _).trans (zag (hownX.alloc (.cells #[.int .i64 pk, .int .i64 pa, .int .i64 pb] 30)) hgr6 (by simp; omega))
      go_wp2_with fail; go_roundw
      case rel => exact ⟨k + 1, k + 1, l ++ [(pk, pa, pb)], by omega, by go_num, by go_num, HNX.out.1, HNX.out.2, Nat.le_refl _, by rw [List.length_append]; simp; omega, by rw [List.length_append, List.flatMap_append]; exact hown6, hb7⟩
      case measure => simp [intOf]; omega
    ·by_cases hfe : ff = []
     ·have HNX := Lib.hid (HSK2.out ⟨rfl, hfe⟩)
      have hfl : ((ff.length : Int) == 0) = true := by rw [hfe]; rfl
      clear HACT HBAD HSK2 hfe HPA; go_wp2_with fail; go_roundw
      case rel => exact ⟨k + 1, k + 1, l, by omega, by go_num, by go_num, HNX.out.1, HNX.out.2, Nat.le_refl _, by omega, hown4, hb4⟩
      case measure => simp [intOf]; omega
     ·replace HACT := Lib.hid (HACT.out (fun h => hfe h.2))
      replace HBAD := Lib.hid (HBAD.out (fun h => hfe h.2))
      have hfl : ((ff.length : Int) == 0) = false := by
       rw [beq_eq_false_iff_ne]; intro h; exact hfe (List.length_eq_zero_iff.1 (by omega))
      clear HSK2 hfe; go_wp2_with fail; refine (HPA.out w3).mono ?_; rintro e w5 ⟨rfl, hb5⟩; have hb6 := zab hb4 hb5; have hbX : Below W1.heap.size W1 (w5.alloc (.cells #[.int .i64 pk, .int .i64 pa, .int .i64 pb] 30)) := hb6.alloc hb6.size _; have LX : Loc (w5.alloc (.cells #[.int .i64 pk, .int .i64 pa, .int .i64 pb] 30)) w5.heap.size [.int .i64 pk, .int .i64 pa, .int .i64 pb] := Loc.new w5 #[.int .i64 pk, .int .i64 pa, .int .i64 pb] 30; have hownX := zac (zac hown4 hb5) ((Below.refl _ _).alloc (Nat.le_refl _) _ : Below w5.heap.size w5 (w5.alloc (.cells #[.int .i64 pk, .int .i64 pa, .int .i64 pb] 30))); clear hb5 hb6 hown4 HPA
      cases pok
      ·have HF : Hid (rsF s = ([], false)) := zen (HRL.out.trans (HBAD.out rfl))
       go_wp2_with fail; go_ret2; exact ⟨_, by rw [HF.out]; rfl, by rw [HF.out]; exact zac HN1.out hbX, zab hbw hbX⟩
      ·have HNX := Lib.hid (HACT.out rfl)
       go_upto_region 15 with (fail)
       generalize w5.alloc (.cells #[.int .i64 pk, .int .i64 pa, .int .i64 pb] 30) = WX at *
       obtain ⟨x0, x1, x2⟩ := LX.a3; have hzX := hbX.size
       go_wp2_with (at_builtin; go_must (refine zaf _ rfl (.tmp 64) (.tmp 66) _ rfl W1.heap.size 30 iA _ 3 24 Tryz.underlying28 hiA hzA hzA1 hzA2 rfl (by omega) _ l.length (l.flatMap cAct) rfl (hownX.alloc _) _ 1 [.int .i64 pk, .int .i64 pa, .int .i64 pb] rfl (zap WX #[.int .i64 pk, .int .i64 pa, .int .i64 pb] _ 3 1 rfl (by simp [maxLen])) (by simp [Value.oneCell']) (by simp [maxLen]; omega) (by omega) (by simp; omega) ?_); intro v3 w6 hown6 hgr6)
       have hb7 : Below W1.heap.size W1 w6 := (hbX.alloc hbX.size _).trans (zag (hownX.alloc (.cells #[.int .i64 pk, .int .i64 pa, .int .i64 pb] 30)) hgr6 (by simp; omega))
       go_wp2_with fail; go_roundw
       case rel => exact ⟨k + 1, k + 1, l ++ [(pk, pa, pb)], by omega, by go_num, by go_num, HNX.out.1, HNX.out.2, Nat.le_refl _, by rw [List.length_append]; simp; omega, by rw [List.length_append, List.flatMap_append]; exact hown6, hb7⟩
       case measure => simp [intOf]; omega
  ·have hke : k = s.size + 1 := by omega
   have HRS : Hid (rsL s = some l) := HRL.out.trans (HEND.out hke); have hki : ¬ (k : Int) <= (s.size : Int) := by omega
   have hl2 : l.length <= 20001 := by omega
   have HOK := Lib.hid (z0e (HEND.out hke)).1; clear HRL HST HEND hke; have hbb := zab hbw hb; have HN2 := Lib.hid (zac HN1.out hb)
   by_cases h40 : l.length <= 40
   ·have hd4 : decide ((40 : Int) < (l.length : Int)) = false := decide_eq_false (by omega)
    have HF : Hid (rsF s = (zjv l, true)) := zzv HRS.out h40; have hra : RdL cAct 3 wr (.slice Aq l.length cq) l := RdS.of_own hown; clear HRS hown; go_wp2_with fail; refine (zgi wr).mono ?_; rintro e w3 ⟨x1, x2, x3, S, rfl, ow, fr, hb3⟩; obtain ⟨⟨A1, n1, rfl⟩, ⟨A2, n2, rfl⟩, ⟨A3, n3, rfl⟩⟩ := ow.rd.forms; have hrt := ow.rd; have hRA := fun W hr ha => zk0 3 60 (.slice A1 ([] : List zad).length n1) (.slice A2 zft.length n2) (.slice A3 ([] : List Int).length n3) (.slice Aq l.length cq) [] zft [] l W hr ha (by decide)
    have hbd0 := zub smpT l; have hbp0 := zv3 HOK.out; have HBD : Hid (∀ x ∈ (zci smpT l).2, 0 <= x /\ x <= 3) := fun x hx => ⟨hbp0 x hx, (hbd0 x hx).2⟩
    clear hbd0 hbp0 HOK; have HOU : Hid (zjv l = (zci smpT l).2.map numS ++ fmtT (zci smpT l).1.n (zci smpT l).1.m (zci smpT l).1.cs (zci smpT l).1.pl (zci smpT l).1.ds) := rfl; have HNL : Hid ((zci smpT l).2.length <= 40) := (zml smpT l).2; unfold zo5 at hRA; rw [show (⟨3, 60, [], zft, []⟩ : Th) = smpT from rfl] at hRA
    generalize zci smpT l = r at *
    obtain ⟨⟨n', m', cs', pl', ds'⟩, ns⟩ := r; have hfl := znb n' m' cs' pl' ds'
    dsimp only at hRA HBD HOU HNL
    unfold zv5 at hRA; have HRA := Lib.hid hRA; have hnl : ns.length <= 40 := HNL.out; replace hra := hra.below hb3; replace hbb := zab hbb hb3; clear hRA HNL ow fr hb3; go_wp2_with fail; refine (HRA.out w3 hrt hra).mono ?_; rintro e w4 ⟨y1, y2, y3, S4, v4, SN, rfl, ow4, fr4, on4, fn4, hdj, hb4⟩; have hr4 := ow4.rd; have hn4 : RdL cInt 1 w4 v4 ns := on4.rd; obtain ⟨⟨B1, k1, rfl⟩, ⟨B2, k2, rfl⟩, ⟨B3, k3, rfl⟩⟩ := hr4.forms; obtain ⟨B4, k4, rfl, _, _⟩ := hn4.form; replace hbb := zab hbb hb4; clear ow4 fr4 on4 fn4 hdj hb4 HRA hrt hra; have hbX : Below w.heap.size w (w4.alloc (.cells #[.int .i64 n', .slice B1 cs'.length k1, .slice B2 pl'.length k2, .slice B3 ds'.length k3, .int .i64 m'] 39)) := hbb.alloc hbb.size _; have hbY : Below w4.heap.size w4 (w4.alloc (.cells #[.int .i64 n', .slice B1 cs'.length k1, .slice B2 pl'.length k2, .slice B3 ds'.length k3, .int .i64 m'] 39)) := (Below.refl _ _).alloc (Nat.le_refl _) _
    have Lt : Loc (w4.alloc (.cells #[.int .i64 n', .slice B1 cs'.length k1, .slice B2 pl'.length k2, .slice B3 ds'.length k3, .int .i64 m'] 39)) w4.heap.size [.int .i64 n', .slice B1 cs'.length k1, .slice B2 pl'.length k2, .slice B3 ds'.length k3, .int .i64 m'] := Loc.new w4 #[.int .i64 n', .slice B1 cs'.length k1, .slice B2 pl'.length k2, .slice B3 ds'.length k3, .int .i64 m'] 39; replace hr4 := hr4.below hbY; replace hn4 := hn4.below hbY; clear hbb hb hbY HN2
    go_upto_region 21 with (fail)
    obtain ⟨gt, hgt⟩ : ∃ gt, w4.heap.size = gt := ⟨_, rfl⟩; rw [hgt] at Lt ⊢; generalize w4.alloc (.cells #[.int .i64 n', .slice B1 cs'.length k1, .slice B2 pl'.length k2, .slice B3 ds'.length k3, .int .i64 m'] 39) = WX at *
    clear hgt; have hown0 := World.ownsRow_made (size := 1) (e := 9) WX #[] 0 (Nat.le_refl _) (by simp [maxLen]) rfl
    have hb0 : Below WX.heap.size WX (WX.alloc (.cells #[] 9)) := (Below.refl _ _).alloc (Nat.le_refl _) _; go_wp2_with fail
    go_loopw [15, 16] (fun q i wr => ∃ k : Nat, k <= ns.length /\ i = .int .i64 k /\ wr.ownsRow WX.heap.size 9 1 q k (((ns.take k).map numS).flatMap cStr) /\ Below WX.heap.size WX wr) (fun _ i _ => ns.length - (intOf i).toNat)
    case atStart => exact ⟨0, Nat.zero_le _, rfl, hown0, hb0⟩
    case round =>
     obtain ⟨k, hk, rfl, hown, hb⟩ := hrel; clear hown0 hb0; have hz := hb.size; obtain ⟨Ao, co, rfl, _, _⟩ := (RdS.of_own hown).form
     by_cases hlt : k < ns.length
     ·obtain ⟨g, off, rfl, hg, hc⟩ := (hn4.below hb).cell zat (by omega) hlt
      have k0 := hc 0 _ rfl
      simp only [Nat.add_zero, Nat.mul_one] at k0
      clear hc; have HB := HBD.out ns[k] (List.getElem_mem hlt)
      have HN : Hid (((ns.take (k + 1)).map numS).flatMap cStr = ((ns.take k).map numS).flatMap cStr ++ [.string (numS ns[k])]) := by
       show _ = _
       rw [zbm ns hlt, List.map_append, List.flatMap_append]; rfl
      obtain ⟨x, hx⟩ := Int.eq_ofNat_of_zero_le HB.1; rw [hx] at HB HN k0; clear hx; have hCI := Lib.hid (fun W => zaz x W (by omega))
      go_wp2_with fail; refine (hCI.out wr).mono ?_; rintro e w6 ⟨rfl, hb6⟩; have hown6 := zac hown hb6; have hbb6 := zab hb hb6; have hz6 := hbb6.size; clear hown hb6 k0 HB; generalize numS (x : Int) = t at *
      go_wp2_with (at_builtin; go_must (refine zaf _ rfl (.tmp 85) (.tmp 91) _ rfl WX.heap.size 9 i0 _ 1 16 Tryz.underlying22 hi0 hz0 hz1' hz2 rfl (by omega) _ k (((ns.take k).map numS).flatMap cStr) rfl (hown6.alloc _) _ 1 [.string t] rfl (zap w6 #[.string t] _ 1 1 rfl (by simp [maxLen])) (by simp [Value.oneCell']) (by simp [maxLen]; omega) (by omega) (by simp; omega) ?_); intro v3 w7 hown7 hgr7)
      have hb7 : Below WX.heap.size WX w7 := (hbb6.alloc hbb6.size _).trans (zag (hown6.alloc (.cells #[.string t] 9)) hgr7 (by simp; omega))
      go_wp2_with fail; go_roundw
      case rel => exact ⟨k + 1, by omega, by go_num, by rw [HN.out]; exact hown7, hb7⟩
      case measure => simp [intOf]; omega
     ·obtain rfl : k = ns.length := by omega
      rw [List.take_length] at hown; replace Lt := Lt.below hb; replace hr4 := hr4.below hb; obtain ⟨t0, t1, t2, t3, t4⟩ := Lt.a5; have hFT := fun W hr => zgj n' m' (.slice B1 cs'.length k1) (.slice B2 pl'.length k2) (.slice B3 ds'.length k3) cs' pl' ds' W hr
      generalize fmtT n' m' cs' pl' ds' = F at *
      have HFT := Lib.hid hFT; clear hFT hn4 HBD; go_wp2_with fail; refine (HFT.out wr hr4).mono ?_; rintro e w6 ⟨vF, rfl, ownF, hb6⟩; have hrF : RdS w6 1 vF F.length (F.flatMap cStr) := RdS.of_own ownF; obtain ⟨AF, cF, rfl, _, _⟩ := hrF.form; have hown6 := zac hown hb6; have hbb6 := zab hb hb6; have hz6 := hbb6.size; clear hown hb6 ownF HFT t0 t1 t2 t3 t4
      go_wp2_with (at_builtin; go_must (refine zaf _ rfl (.tmp 93) (.tmp 95) _ rfl WX.heap.size 9 i0 _ 1 16 Tryz.underlying22 hi0 hz0 hz1' hz2 rfl (by omega) _ ns.length ((ns.map numS).flatMap cStr) rfl hown6 _ F.length (F.flatMap cStr) rfl hrF (fun y hy => by rw [zie] at hy; obtain ⟨x, _, rfl⟩ := List.mem_map.1 hy; rfl) (by simp [maxLen]; omega) (by omega) (by omega) ?_); intro v3 w7 hown7 hgr7)
      have hb7 : Below WX.heap.size WX w7 := hbb6.trans (zag hown6 hgr7 (by omega))
      have HFIN : Hid (w7.ownsRow WX.heap.size 9 1 v3 (zjv l).length ((zjv l).flatMap cStr)) := by
       show World.ownsRow _ _ _ _ _ _ _
       rw [HOU.out, List.length_append, List.length_map, List.flatMap_append]; exact hown7
      clear hown7; go_wp2_with fail; go_ret2; exact ⟨_, by rw [HF.out]; rfl, by rw [HF.out]; exact zaj HFIN.out (by have := hbX.size; omega), zab hbX hb7⟩
   ·have hd4 : decide ((40 : Int) < (l.length : Int)) = true := decide_eq_true (by omega)
    have HF : Hid (rsF s = ([], false)) := zqr HRS.out h40; go_wp2_with fail; go_ret2; exact ⟨_, by rw [HF.out]; rfl, by rw [HF.out]; exact HN2.out, hbb⟩
end Go.Proofs.YtkbacoadejglkaaGreatDoor
