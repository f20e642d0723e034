/- FnTheatres: the law returns true for every input. No condition. Written by a program (gen_fth.py). -/
import Derived.Deep.DeepCutAuto
import Derived.OpenShut
import Derived.Test.YtlhdeojkpmpecaaGreatBdN1x2
import Derived.Test.YtlhdeojkpmpecaaGreatBdK7x14
import Derived.Test.YtlhdeojkpmpecaaGreatBdY7x8
import Derived.Test.YtlhdeojkpmpecaaGreatBdZ5x9
import Derived.Test.YtlhdeojkpmpecaaGreatBdK3x9
import Derived.Test.YtlhdeojkpmpecaaGreatY2
import Derived.Test.YtlhdeojkpmpecaaGreatBdW1x3
import Derived.Test.YtlhdeojkpmpecaaGreatO3
namespace Go.Proofs.YtlhdeojkpmpecaaGreat
open Go.ChangeShapes Go.WideShapes Go.ChangeAt Go.RowKit Go.Deep
set_option maxHeartbeats 2000000 in
set_option maxRecDepth 100000 in
theorem drawTheatre_any (A : Option Addr) (c : Nat) (bs : List Int) (w : World) (h : RdL cU8 1 w (.slice A bs.length c) bs) (hby : ∀ x ∈ bs, 0 ≤ x ∧ x ≤ 255) (hlen : bs.length ≤ 1048576) :
    Calls Tryz.prog 31 #[.slice A bs.length c] w (DrawnTh w) := by
  go_enter Tryz.func31, Tryz.ntmps31
  have hb0 : Below w.heap.size w (w.alloc (.cells #[.int .i64 0, .slice none 0 0, .slice none 0 0, .slice none 0 0, .int .i64 0] 37)) := by (repeat' (with_reducible first | exact Below.refl _ _ | assumption | refine qS ?_ _ | refine qA ?_ _ | refine qD ?_ | refine qN ?_ _))
  have lr : Loc (w.alloc (.cells #[.int .i64 0, .slice none 0 0, .slice none 0 0, .slice none 0 0, .int .i64 0] 37)) w.heap.size [.int .i64 0, .slice none 0 0, .slice none 0 0, .slice none 0 0, .int .i64 0] := Loc.new w #[.int .i64 0, .slice none 0 0, .slice none 0 0, .slice none 0 0, .int .i64 0] 37
  have hz0 : w.heap.size < (w.alloc (.cells #[.int .i64 0, .slice none 0 0, .slice none 0 0, .slice none 0 0, .int .i64 0] 37)).heap.size := by simp
  go_wp2_with fail
  generalize w.alloc (.cells #[.int .i64 0, .slice none 0 0, .slice none 0 0, .slice none 0 0, .int .i64 0] 37) = V at *
  refine (l01New_any A c bs V (h.below hb0) hby hlen).mono ?_
  rintro e w1 ⟨g, rfl, hc⟩
  have hgV := hc.base
  have lr1 := lr.below hc.below
  go_wp2_with fail
  refine (l38Theatre_any V w1 g A c bs hc).mono ?_
  rintro e w2 ⟨n, m, cs, pl, ds, x1, x2, x3, S, rfl, ow, fr, hok, hc2, hch⟩
  obtain ⟨⟨A1, n1, rfl⟩, ⟨A2, n2, rfl⟩, ⟨A3, n3, rfl⟩⟩ := ow.rd.forms
  have hz1 := hc.below.size
  have lr2 := lr1.chg hch (by simp; omega)
  have hb2 : Below w.heap.size w w2 := bl_trans hb0 hc2.below
  have hz2' := hb2.size
  have hfS : ∀ b ∈ S, b ∉ [w.heap.size] := fun b hb hb' => by have := (fr.2 b hb).1; simp at hb'; omega
  have HFS := Lib.hid hfS
  have HFR := Lib.hid fr
  have HOW := Lib.hid ow
  obtain ⟨k0, f0⟩ := lr2 0 _ rfl
  obtain ⟨k1, f1⟩ := lr2 1 _ rfl
  obtain ⟨k2, f2⟩ := lr2 2 _ rfl
  obtain ⟨k3, f3⟩ := lr2 3 _ rfl
  obtain ⟨k4, f4⟩ := lr2 4 _ rfl
  have Hok := Lib.hid hok
  clear hok hfS fr ow
  go_wp2_with fail
  have hch3 : Chg [w.heap.size] w2 (((((w2.setCell ⟨w.heap.size, 0, none⟩ (.int .i64 n)).setCell ⟨w.heap.size, 1, none⟩ (.slice A1 cs.length n1)).setCell ⟨w.heap.size, 2, none⟩ (.slice A2 pl.length n2)).setCell ⟨w.heap.size, 3, none⟩ (.slice A3 ds.length n3)).setCell ⟨w.heap.size, 4, none⟩ (.int .i64 m)) := by repeat' (with_reducible first | exact Chg.refl _ _ | refine qC ?_)
  exact bodyPost_ret (v := .agg #[.int .i64 n, .slice A1 cs.length n1, .slice A2 pl.length n2, .slice A3 ds.length n3, .int .i64 m]) (by simp [results, Tryz.results31, go_sem, *]) rfl ⟨n, m, cs, pl, ds, _, _, _, S, rfl, HOW.out.chg hch3 HFS.out, fresh_mono HFR.out (by omega) hch3.size, Hok.out, Below.chg hb2 hch3 hz2' (by simp)⟩
set_option maxHeartbeats 8000000 in
set_option maxRecDepth 100000 in
theorem lawFnTheatres_any (A : Option Addr) (c : Nat) (bs : List Int) (w : World) (h : RdL cU8 1 w (.slice A bs.length c) bs) (hby : ∀ x ∈ bs, 0 ≤ x ∧ x ≤ 255) :
    Calls Tryz.prog 6 #[.slice A bs.length c] w fun e w' => e = .returned (.bool true) ∧ Below w.heap.size w w' := by
  have Hby := Lib.hid hby
  clear hby
  have HT : Hid (∀ (n m : Int) (v1 v2 v3 : Value) (cs : List RCross) (pl : List RPl) (ds : List Int) (W : World), RdTheatre W v1 v2 v3 cs pl ds → theatreB n m cs pl ds = true →
      Calls Tryz.prog 36 #[.agg #[.int .i64 n, v1, v2, v3, .int .i64 m]] W fun e w' => e = .returned (.bool true) ∧ Below W.heap.size W w') := by
    intro n m v1 v2 v3 cs pl ds W hr ht
    have := implTheatreOk_any n m v1 v2 v3 cs pl ds W hr
    rw [ht] at this
    exact this
  have HH : Hid (∀ (v : Value) (l : List Int) (x : Int) (b : Bool) (W : World), RdL cInt 1 W v l → hasB l x = b →
      Calls Tryz.prog 35 #[v, .int .i64 x] W fun e w' => e = .returned (.bool b) ∧ W = w') := by
    intro v l x b W hr hb
    have := has_any v l x W hr
    rw [hb] at this
    exact this
  go_enter Tryz.func6, Tryz.ntmps6
  go_wp2_with (go_at_call 30; refine twoB (big_any _ _ _ _) (fun wb hc hb => ?_) (fun wb hc hb => ?_))
  · go_ret
    exact ⟨rfl, hb⟩
  have hlen : bs.length ≤ 1048576 := by have := hc.out; simp at this; omega
  clear hc
  refine (drawTheatre_any A c bs wb (h.below hb) Hby.out hlen).mono ?_
  rintro e w1 ⟨n, m, cs, pl, ds, x1, x2, x3, S, rfl, ow, fr, hok, hb1⟩
  have hrt := ow.rd
  have hcode := (h.below hb).below hb1
  obtain ⟨⟨A1, n1, rfl⟩, ⟨A2, n2, rfl⟩, ⟨A3, n3, rfl⟩⟩ := hrt.forms
  have hB : Below w.heap.size w w1 := bl_trans hb hb1
  have hmon := hok.money
  have hm0 : 0 ≤ m := hmon.1
  have hm1 : m ≤ 999990 := hmon.2
  have hn2 : 2 ≤ n := hok.co.n2.1
  have hn4 : n ≤ 4 := hok.co.n2.2
  have hlp : pl.length ≤ 5 := hok.co.len.2
  have hlc : cs.length ≤ 40 := (crosses_len (company_n hok.co.ok).1).2.1
  have hld : ds.length ≤ 13 := hok.days
  have hsz : szTheatre cs pl ds ≤ 1048576 := by have := theatreB_sz hok.ok; omega
  have HOK := Lib.hid hok
  have HLEN := Lib.hid hlen
  clear hmon hok hb hb1 h ow fr hlen
  go_upto_region 4 with (fail)
  have hal : Below w1.heap.size w1 (w1.alloc (.cells #[.int .i64 n, .slice A1 cs.length n1, .slice A2 pl.length n2, .slice A3 ds.length n3, .int .i64 m] 37)) := (Below.refl _ _).alloc (Nat.le_refl _) _
  have L : Loc (w1.alloc (.cells #[.int .i64 n, .slice A1 cs.length n1, .slice A2 pl.length n2, .slice A3 ds.length n3, .int .i64 m] 37)) w1.heap.size [.int .i64 n, .slice A1 cs.length n1, .slice A2 pl.length n2, .slice A3 ds.length n3, .int .i64 m] := Loc.new w1 #[.int .i64 n, .slice A1 cs.length n1, .slice A2 pl.length n2, .slice A3 ds.length n3, .int .i64 m] 37
  replace hrt := hrt.below hal
  replace hcode := hcode.below hal
  replace hB := hB.trans (hal.mono hB.size)
  obtain ⟨g1, hg1⟩ : ∃ g, w1.heap.size = g := ⟨_, rfl⟩
  rw [hg1] at L
  generalize w1.alloc (.cells #[.int .i64 n, .slice A1 cs.length n1, .slice A2 pl.length n2, .slice A3 ds.length n3, .int .i64 m] 37) = W1 at *
  (try rw [hg1])
  clear hg1 hal
  have b0 := (L 0 _ rfl).1
  have b1 := (L 1 _ rfl).1
  have b2 := (L 2 _ rfl).1
  have b3 := (L 3 _ rfl).1
  have b4 := (L 4 _ rfl).1
  go_wp2_with fail
  refine (at_any A c bs 0 W1 hcode Hby.out HLEN.out (by omega) (by omega)).mono ?_
  rintro e w2 ⟨q, rfl, ⟨hq0, hq1⟩, hb2⟩
  clear b0 b1 b2 b3 b4
  replace hrt := hrt.below hb2
  replace L := L.below hb2
  replace hB := hB.trans (hb2.mono hB.size)
  clear hb2 hcode
  have b0 := (L 0 _ rfl).1
  have b1 := (L 1 _ rfl).1
  have b2 := (L 2 _ rfl).1
  have b3 := (L 3 _ rfl).1
  have b4 := (L 4 _ rfl).1
  go_upto_region 5 with (fail)
  obtain ⟨d, hd⟩ : ∃ d, q % 200 = d := ⟨_, rfl⟩
  have hd0 : 0 ≤ d := by omega
  have hd1 : d ≤ 199 := by omega
  rw [hd]
  clear hd hq0 hq1
  have HWY : Hid (∀ W, RdCompany W (.slice A1 cs.length n1) (.slice A2 pl.length n2) cs pl → Calls Tryz.prog 33 #[.agg #[.int .i64 n, .slice A1 cs.length n1, .slice A2 pl.length n2]] W fun e w' => e = .returned (.int .i64 (whyF n cs pl)) ∧ Below W.heap.size W w') := fun W hr => specWhyNot_any n _ _ cs pl W hr
  go_wp2_with fail
  refine (HWY.out w2 hrt.1).mono ?_
  rintro e w3 ⟨rfl, hb3⟩
  clear b0 b1 b2 b3 b4
  replace hrt := hrt.below hb3
  replace L := L.below hb3
  replace hB := hB.trans (hb3.mono hB.size)
  clear hb3 HWY
  have b0 := (L 0 _ rfl).1
  have b1 := (L 1 _ rfl).1
  have b2 := (L 2 _ rfl).1
  have b3 := (L 3 _ rfl).1
  have b4 := (L 4 _ rfl).1
  have P1 := fun hb => show_t (t := ⟨n, m, cs, pl, ds⟩) (d := d) hb
  have P2 := fun h1 h2 h3 h4 => show_no (d := d) HOK.out ⟨by omega, by omega⟩ h1 h2 h3 h4
  have HC : Hid (∀ W, RdTheatre W (.slice A1 cs.length n1) (.slice A2 pl.length n2) (.slice A3 ds.length n3) cs pl ds → Calls Tryz.prog 34 #[.agg #[.int .i64 n, .slice A1 cs.length n1, .slice A2 pl.length n2, .slice A3 ds.length n3, .int .i64 m], .int .i64 d] W (RetTh W.heap.size (showF (Th.mk n m cs pl ds) d) W)) := fun W hr => implGiveShow_any n m d _ _ _ cs pl ds W hr hsz
  generalize showF (Th.mk n m cs pl ds) d = r at *
  obtain ⟨⟨sn, sm, scs, spl, sds⟩, sb⟩ := r
  dsimp only at P1 P2
  generalize whyF n cs pl = wy at *
  have H1 := Lib.hid P1
  have H2 := Lib.hid P2
  clear P1 P2
  go_wp2_with fail
  refine (HC.out w3 hrt).mono ?_
  rintro e w4 ⟨y1, y2, y3, S, rfl, ow, fr, hbn⟩
  have hrs := ow.rd
  obtain ⟨⟨SA1, sk1, rfl⟩, ⟨SA2, sk2, rfl⟩, ⟨SA3, sk3, rfl⟩⟩ := hrs.forms
  clear b0 b1 b2 b3 b4
  replace hrt := hrt.below hbn
  replace L := L.below hbn
  replace hB := hB.trans (hbn.mono hB.size)
  clear hbn HC ow fr
  go_upto_region 7 with (fail)
  have hal : Below w4.heap.size w4 (w4.alloc (.cells #[.int .i64 sn, .slice SA1 scs.length sk1, .slice SA2 spl.length sk2, .slice SA3 sds.length sk3, .int .i64 sm] 37)) := (Below.refl _ _).alloc (Nat.le_refl _) _
  have LS : Loc (w4.alloc (.cells #[.int .i64 sn, .slice SA1 scs.length sk1, .slice SA2 spl.length sk2, .slice SA3 sds.length sk3, .int .i64 sm] 37)) w4.heap.size [.int .i64 sn, .slice SA1 scs.length sk1, .slice SA2 spl.length sk2, .slice SA3 sds.length sk3, .int .i64 sm] := Loc.new w4 #[.int .i64 sn, .slice SA1 scs.length sk1, .slice SA2 spl.length sk2, .slice SA3 sds.length sk3, .int .i64 sm] 37
  replace hrs := hrs.below hal
  replace hrt := hrt.below hal
  replace L := L.below hal
  replace hB := hB.trans (hal.mono hB.size)
  obtain ⟨gs, hgs⟩ : ∃ g, w4.heap.size = g := ⟨_, rfl⟩
  rw [hgs] at LS
  generalize w4.alloc (.cells #[.int .i64 sn, .slice SA1 scs.length sk1, .slice SA2 spl.length sk2, .slice SA3 sds.length sk3, .int .i64 sm] 37) = W4 at *
  (try rw [hgs])
  clear hgs hal
  go_cut [76] from 8 to 104 (fun v wx => v = .bool false ∧ Below W4.heap.size W4 wx)
  case first =>
    have b0 := (L 0 _ rfl).1
    have b1 := (L 1 _ rfl).1
    have b2 := (L 2 _ rfl).1
    have b3 := (L 3 _ rfl).1
    have b4 := (L 4 _ rfl).1
    have c0 := (LS 0 _ rfl).1
    have c1 := (LS 1 _ rfl).1
    have c2 := (LS 2 _ rfl).1
    have c3 := (LS 3 _ rfl).1
    have c4 := (LS 4 _ rfl).1
    cases sb
    · skip
      go_wp2_with fail
      go_meet
      case rel => exact ⟨rfl, Below.refl _ _⟩
    · obtain ⟨e1, e2, e3, e4, e5, e6⟩ := H1.out rfl
      rw [wr_add (by omega) (by omega)] at e5
      have E2 := Lib.hid e2
      have E3 := Lib.hid e3
      have E6 : Hid (theatreB sn sm scs spl sds = true) := e6
      have E4 : Hid (sds.length = ds.length + 1) := e4
      subst e1 e5
      clear e2 e3 e6 H1 H2 e4
      go_wp2_with fail
      refine (HH.out _ ds d false W4 hrt.2 E2.out).mono ?_
      rintro e wq ⟨rfl, rfl⟩
      go_wp2_with fail
      refine (HH.out _ sds d true W4 hrs.2 E3.out).mono ?_
      rintro e wq ⟨rfl, rfl⟩
      have hle : ((sds.length : Int) != (ds.length : Int) + 1) = false := by rw [bne_eq_false_iff_eq]; have := E4.out; omega
      go_wp2_with fail
      refine (HT.out sn (m + 30) _ _ _ scs spl sds W4 hrs E6.out).mono ?_
      rintro e w6 ⟨rfl, hb6⟩
      go_wp2_with fail
      go_meet
      case rel => exact ⟨rfl, hb6⟩
  case rest =>
    clear hrs LS
    obtain ⟨rfl, hcut⟩ := hcut
    obtain ⟨wcc, hwx⟩ : ∃ x, wc = x := ⟨_, rfl⟩
    rw [hwx] at hcut ⊢
    clear hwx
    replace hrt := hrt.below hcut
    replace L := L.below hcut
    replace hB := hB.trans (hcut.mono hB.size)
    clear hcut
    have b0 := (L 0 _ rfl).1
    have b1 := (L 1 _ rfl).1
    have b2 := (L 2 _ rfl).1
    have b3 := (L 3 _ rfl).1
    have b4 := (L 4 _ rfl).1
    go_upto_region 9 with (fail)
    obtain ⟨bb, hbb⟩ : ∃ bb : Bool, (!sb && (wy == 0) && !(hasB ds d) && decide (m + 30 ≤ 1000000)) = bb := ⟨_, rfl⟩
    have HBB := Lib.hid hbb
    clear hbb
    go_cut [95] from 8 to 104 (fun v wx => v = .bool bb ∧ Below wcc.heap.size wcc wx)
    case first =>
      cases sb
      · by_cases hw : wy = 0
        · subst hw
          obtain ⟨hv, hhv⟩ : ∃ hv, hasB ds d = hv := ⟨_, rfl⟩
          have HHV := Lib.hid hhv
          clear hhv
          go_wp2_with fail
          refine (HH.out _ ds d hv wcc hrt.2 HHV.out).mono ?_
          rintro e wq ⟨rfl, rfl⟩
          cases hv
          · obtain ⟨h3, hh3⟩ : ∃ h3 : Bool, decide (m + 30 ≤ 1000000) = h3 := ⟨_, rfl⟩
            have HB2 : Hid (h3 = bb) := by have := HBB.out; rw [HHV.out, hh3] at this; show h3 = bb; simpa using this
            go_wp2_with fail
            go_meet
            case rel => exact ⟨congrArg Value.bool HB2.out, Below.refl _ _⟩
          · have HB2 : Hid (false = bb) := by have := HBB.out; rw [HHV.out] at this; show false = bb; simpa using this
            go_wp2_with fail
            go_meet
            case rel => exact ⟨congrArg Value.bool HB2.out, Below.refl _ _⟩
        · have hw' : (wy == 0) = false := by rw [beq_eq_false_iff_ne]; exact hw
          have HB2 : Hid (false = bb) := by have := HBB.out; rw [hw'] at this; show false = bb; simpa using this
          go_wp2_with fail
          go_meet
          case rel => exact ⟨congrArg Value.bool HB2.out, Below.refl _ _⟩
      · have HB2 : Hid (false = bb) := by have := HBB.out; show false = bb; simpa using this
        go_wp2_with fail
        go_meet
        case rel => exact ⟨congrArg Value.bool HB2.out, Below.refl _ _⟩
    case rest =>
      clear b0 b1 b2 b3 b4
      obtain ⟨rfl, hcut⟩ := hcut
      obtain ⟨wce, hwx⟩ : ∃ x, wc = x := ⟨_, rfl⟩
      rw [hwx] at hcut ⊢
      clear hwx
      replace hrt := hrt.below hcut
      replace L := L.below hcut
      replace hB := hB.trans (hcut.mono hB.size)
      clear hcut
      have b0 := (L 0 _ rfl).1
      have b1 := (L 1 _ rfl).1
      have b2 := (L 2 _ rfl).1
      have b3 := (L 3 _ rfl).1
      have b4 := (L 4 _ rfl).1
      go_upto_if 95 with (fail)
      go_cut [] from 8 to 104 (fun wx => Below wce.heap.size wce wx)
      case first =>
        cases bb
        · skip
          go_wp2_with fail
          go_meet
          case rel => exact Below.refl _ _
        · have hA := HBB.out
          rw [Bool.and_eq_true, Bool.and_eq_true, Bool.and_eq_true, beq_iff_eq, decide_eq_true_eq] at hA
          obtain ⟨⟨⟨q1, q2⟩, q3⟩, q4⟩ := hA
          have HKF := Lib.hid (H2.out (by simpa using q1) q2 (by simpa using q3) q4)
          have hKF := fun v W hr => specKeepsRest_any v (addF ds d).1 5 W hr
          rw [HKF.out] at hKF
          have HKR := Lib.hid hKF
          clear hKF HKF q1 q2 q3 q4
          go_wp2_with fail
          refine (specAddShow_any _ ds d wce hrt.2 (by omega)).mono ?_
          rintro e w5 ⟨v5, S5, rfl, ow5, fr5, hb5⟩
          generalize (addF ds d).1 = ds5 at *
          generalize (addF ds d).2 = b5 at *
          have hr5 := ow5.rd
          obtain ⟨A5, n5, rfl, _, _⟩ := hr5.form
          clear ow5 fr5
          go_wp2_with fail
          refine (HKR.out _ w5 hr5).mono ?_
          rintro e w6 ⟨rfl, hb6⟩
          go_wp2_with fail
          go_meet
          case rel => exact bl_trans hb5 hb6
      case rest =>
        clear H1 H2 HBB b0 b1 b2 b3 b4
        obtain ⟨wd, hwx⟩ : ∃ x, wc = x := ⟨_, rfl⟩
        rw [hwx] at hcut ⊢
        clear hwx
        replace hrt := hrt.below hcut
        replace L := L.below hcut
        replace hB := hB.trans (hcut.mono hB.size)
        clear hcut
        have b0 := (L 0 _ rfl).1
        have b1 := (L 1 _ rfl).1
        have b2 := (L 2 _ rfl).1
        have b3 := (L 3 _ rfl).1
        have b4 := (L 4 _ rfl).1
        have P1 := hire_iff HOK.out
        have P2 := fun hb => hire_t HOK.out hb
        have HC : Hid (∀ W, RdTheatre W (.slice A1 cs.length n1) (.slice A2 pl.length n2) (.slice A3 ds.length n3) cs pl ds → Calls Tryz.prog 39 #[.agg #[.int .i64 n, .slice A1 cs.length n1, .slice A2 pl.length n2, .slice A3 ds.length n3, .int .i64 m], .int .i64 1] W (RetTh W.heap.size (hireF (Th.mk n m cs pl ds) 1) W)) := fun W hr => implHirePlayer_any n m 1 _ _ _ cs pl ds W hr hsz
        generalize hireF (Th.mk n m cs pl ds) 1 = r at *
        obtain ⟨⟨hn, hm, hcs, hpl, hds⟩, hb⟩ := r
        dsimp only at P1 P2
        have H1 := Lib.hid P1
        have H2 := Lib.hid P2
        clear P1 P2
        go_wp2_with fail
        refine (HC.out wd hrt).mono ?_
        rintro e we ⟨y1, y2, y3, S, rfl, ow, fr, hbn⟩
        have hrh := ow.rd
        obtain ⟨⟨HA1, hk1, rfl⟩, ⟨HA2, hk2, rfl⟩, ⟨HA3, hk3, rfl⟩⟩ := hrh.forms
        clear b0 b1 b2 b3 b4
        replace hrt := hrt.below hbn
        replace L := L.below hbn
        replace hB := hB.trans (hbn.mono hB.size)
        clear hbn HC ow fr
        go_upto_region 14 with (fail)
        have hal : Below we.heap.size we (we.alloc (.cells #[.int .i64 hn, .slice HA1 hcs.length hk1, .slice HA2 hpl.length hk2, .slice HA3 hds.length hk3, .int .i64 hm] 37)) := (Below.refl _ _).alloc (Nat.le_refl _) _
        have LH : Loc (we.alloc (.cells #[.int .i64 hn, .slice HA1 hcs.length hk1, .slice HA2 hpl.length hk2, .slice HA3 hds.length hk3, .int .i64 hm] 37)) we.heap.size [.int .i64 hn, .slice HA1 hcs.length hk1, .slice HA2 hpl.length hk2, .slice HA3 hds.length hk3, .int .i64 hm] := Loc.new we #[.int .i64 hn, .slice HA1 hcs.length hk1, .slice HA2 hpl.length hk2, .slice HA3 hds.length hk3, .int .i64 hm] 37
        replace hrh := hrh.below hal
        replace hrt := hrt.below hal
        replace L := L.below hal
        replace hB := hB.trans (hal.mono hB.size)
        obtain ⟨gh, hgh⟩ : ∃ g, we.heap.size = g := ⟨_, rfl⟩
        rw [hgh] at LH
        generalize we.alloc (.cells #[.int .i64 hn, .slice HA1 hcs.length hk1, .slice HA2 hpl.length hk2, .slice HA3 hds.length hk3, .int .i64 hm] 37) = W5 at *
        (try rw [hgh])
        clear hgh hal
        go_cut [144] from 12 to 144 (fun v wx => v = .bool false ∧ Below W5.heap.size W5 wx)
        case first =>
          have b0 := (L 0 _ rfl).1
          have b1 := (L 1 _ rfl).1
          have b2 := (L 2 _ rfl).1
          have b3 := (L 3 _ rfl).1
          have b4 := (L 4 _ rfl).1
          have c0 := (LH 0 _ rfl).1
          have c1 := (LH 1 _ rfl).1
          have c2 := (LH 2 _ rfl).1
          have c3 := (LH 3 _ rfl).1
          have c4 := (LH 4 _ rfl).1
          by_cases h10 : 10 ≤ m
          · by_cases hl6 : pl.length < 6
            · have hb1 : hb = true := by rw [H1.out, decide_eq_true h10, decide_eq_true hl6]; rfl
              subst hb1
              obtain ⟨e1, e2⟩ := H2.out rfl
              subst e1
              have hl6' : (pl.length : Int) < 6 := by omega
              have hle : ((hpl.length : Int) != (pl.length : Int) + 1) = false := by rw [bne_eq_false_iff_eq]; omega
              clear e2 H1 H2
              go_wp2_with fail
              go_meet
              case rel => exact ⟨rfl, Below.refl _ _⟩
            · exact absurd hlp (by omega)
          · have hb1 : hb = false := by rw [H1.out, decide_eq_false h10]; rfl
            subst hb1
            have h10' : m < 10 := by omega
            have h10'' : decide (10 ≤ m) = false := decide_eq_false h10
            clear H1 H2
            go_wp2_with fail
            go_meet
            case rel => exact ⟨rfl, Below.refl _ _⟩
        case rest =>
          clear hrh LH H1 H2
          obtain ⟨rfl, hcut⟩ := hcut
          obtain ⟨wf, hwx⟩ : ∃ x, wc = x := ⟨_, rfl⟩
          rw [hwx] at hcut ⊢
          clear hwx
          replace hrt := hrt.below hcut
          replace L := L.below hcut
          replace hB := hB.trans (hcut.mono hB.size)
          clear hcut
          have b0 := (L 0 _ rfl).1
          have b1 := (L 1 _ rfl).1
          have b2 := (L 2 _ rfl).1
          have b3 := (L 3 _ rfl).1
          have b4 := (L 4 _ rfl).1
          have P1 := teach_iff HOK.out
          have P2 := fun hb => teach_t HOK.out hb
          have HC : Hid (∀ W, RdTheatre W (.slice A1 cs.length n1) (.slice A2 pl.length n2) (.slice A3 ds.length n3) cs pl ds → Calls Tryz.prog 40 #[.agg #[.int .i64 n, .slice A1 cs.length n1, .slice A2 pl.length n2, .slice A3 ds.length n3, .int .i64 m], .int .i64 0, .int .i64 6] W (RetTh W.heap.size (teachT (Th.mk n m cs pl ds) 0 6) W)) := fun W hr => implTeachPlayer_any n m 0 6 _ _ _ cs pl ds W hr hsz
          generalize teachT (Th.mk n m cs pl ds) 0 6 = r at *
          obtain ⟨⟨ln, lm, lcs, lpl, lds⟩, lb⟩ := r
          dsimp only at P1 P2
          have H1 := Lib.hid P1
          have H2 := Lib.hid P2
          clear P1 P2
          go_wp2_with fail
          refine (HC.out wf hrt).mono ?_
          rintro e wg ⟨y1, y2, y3, S, rfl, ow, fr, hbn⟩
          have hrl := ow.rd
          obtain ⟨⟨LA1, lk1, rfl⟩, ⟨LA2, lk2, rfl⟩, ⟨LA3, lk3, rfl⟩⟩ := hrl.forms
          clear b0 b1 b2 b3 b4
          replace hrt := hrt.below hbn
          replace L := L.below hbn
          replace hB := hB.trans (hbn.mono hB.size)
          clear hbn HC ow fr
          go_upto_region 17 with (fail)
          have hal : Below wg.heap.size wg (wg.alloc (.cells #[.int .i64 ln, .slice LA1 lcs.length lk1, .slice LA2 lpl.length lk2, .slice LA3 lds.length lk3, .int .i64 lm] 37)) := (Below.refl _ _).alloc (Nat.le_refl _) _
          have LL : Loc (wg.alloc (.cells #[.int .i64 ln, .slice LA1 lcs.length lk1, .slice LA2 lpl.length lk2, .slice LA3 lds.length lk3, .int .i64 lm] 37)) wg.heap.size [.int .i64 ln, .slice LA1 lcs.length lk1, .slice LA2 lpl.length lk2, .slice LA3 lds.length lk3, .int .i64 lm] := Loc.new wg #[.int .i64 ln, .slice LA1 lcs.length lk1, .slice LA2 lpl.length lk2, .slice LA3 lds.length lk3, .int .i64 lm] 37
          replace hrl := hrl.below hal
          replace hrt := hrt.below hal
          replace L := L.below hal
          replace hB := hB.trans (hal.mono hB.size)
          obtain ⟨gl, hgl⟩ : ∃ g, wg.heap.size = g := ⟨_, rfl⟩
          rw [hgl] at LL
          generalize wg.alloc (.cells #[.int .i64 ln, .slice LA1 lcs.length lk1, .slice LA2 lpl.length lk2, .slice LA3 lds.length lk3, .int .i64 lm] 37) = W6 at *
          (try rw [hgl])
          clear hgl hal
          go_cut [172] from 14 to 172 (fun v wx => v = .bool false ∧ Below W6.heap.size W6 wx)
          case first =>
            have b0 := (L 0 _ rfl).1
            have b1 := (L 1 _ rfl).1
            have b2 := (L 2 _ rfl).1
            have b3 := (L 3 _ rfl).1
            have b4 := (L 4 _ rfl).1
            have c0 := (LL 0 _ rfl).1
            have c1 := (LL 1 _ rfl).1
            have c2 := (LL 2 _ rfl).1
            have c3 := (LL 3 _ rfl).1
            have c4 := (LL 4 _ rfl).1
            by_cases h4 : 4 ≤ m
            · have hb1 : lb = true := by rw [H1.out, decide_eq_true h4]
              subst hb1
              obtain ⟨e1, e2⟩ := H2.out rfl
              subst e1
              have hPO := specPlayersOk_any _ lpl W6 hrl.1.2
              rw [e2] at hPO
              clear e2 H1 H2
              go_wp2_with fail
              refine hPO.mono ?_
              rintro e w6 ⟨rfl, hb6⟩
              go_wp2_with fail
              go_meet
              case rel => exact ⟨rfl, hb6⟩
            · have hb1 : lb = false := by rw [H1.out, decide_eq_false h4]
              subst hb1
              have h4' : m < 4 := by omega
              have h4'' : decide (4 ≤ m) = false := decide_eq_false h4
              clear H1 H2
              go_wp2_with fail
              go_meet
              case rel => exact ⟨rfl, Below.refl _ _⟩
          case rest =>
            clear hrl LL H1 H2
            obtain ⟨rfl, hcut⟩ := hcut
            obtain ⟨wh, hwx⟩ : ∃ x, wc = x := ⟨_, rfl⟩
            rw [hwx] at hcut ⊢
            clear hwx
            replace hrt := hrt.below hcut
            replace L := L.below hcut
            replace hB := hB.trans (hcut.mono hB.size)
            clear hcut
            have b0 := (L 0 _ rfl).1
            have b1 := (L 1 _ rfl).1
            have b2 := (L 2 _ rfl).1
            have b3 := (L 3 _ rfl).1
            have b4 := (L 4 _ rfl).1
            have P1 := move_iff HOK.out
            have P2 := fun hb => move_t (n := n) (m := m) (cs := cs) (pl := pl) (ds := ds) hb
            have HC : Hid (∀ W, RdTheatre W (.slice A1 cs.length n1) (.slice A2 pl.length n2) (.slice A3 ds.length n3) cs pl ds → Calls Tryz.prog 42 #[.agg #[.int .i64 n, .slice A1 cs.length n1, .slice A2 pl.length n2, .slice A3 ds.length n3, .int .i64 m], .int .i64 0, .bool true] W (RetTh W.heap.size (moveF (Th.mk n m cs pl ds) 0 true) W)) := fun W hr => implMovePuppet_any n m 0 true _ _ _ cs pl ds W hr hsz
            generalize moveF (Th.mk n m cs pl ds) 0 true = r at *
            obtain ⟨⟨mn, mm, mcs, mpl, mds⟩, mb⟩ := r
            dsimp only at P1 P2
            have M1 : Hid (mb = decide (cs.length < 40)) := by rw [Hid, P1, decide_eq_true (show 1 < n by omega), Bool.true_and]
            have M2 := Lib.hid P2
            clear P1 P2
            go_wp2_with fail
            refine (HC.out wh hrt).mono ?_
            rintro e wi ⟨y1, y2, y3, S, rfl, ow, fr, hbn⟩
            have hrm := ow.rd
            obtain ⟨⟨MA1, mk1, rfl⟩, ⟨MA2, mk2, rfl⟩, ⟨MA3, mk3, rfl⟩⟩ := hrm.forms
            clear b0 b1 b2 b3 b4
            replace hrt := hrt.below hbn
            replace L := L.below hbn
            replace hB := hB.trans (hbn.mono hB.size)
            clear hbn HC ow fr
            go_upto_region 20 with (fail)
            have hal : Below wi.heap.size wi (wi.alloc (.cells #[.int .i64 mn, .slice MA1 mcs.length mk1, .slice MA2 mpl.length mk2, .slice MA3 mds.length mk3, .int .i64 mm] 37)) := (Below.refl _ _).alloc (Nat.le_refl _) _
            have LM : Loc (wi.alloc (.cells #[.int .i64 mn, .slice MA1 mcs.length mk1, .slice MA2 mpl.length mk2, .slice MA3 mds.length mk3, .int .i64 mm] 37)) wi.heap.size [.int .i64 mn, .slice MA1 mcs.length mk1, .slice MA2 mpl.length mk2, .slice MA3 mds.length mk3, .int .i64 mm] := Loc.new wi #[.int .i64 mn, .slice MA1 mcs.length mk1, .slice MA2 mpl.length mk2, .slice MA3 mds.length mk3, .int .i64 mm] 37
            replace hrm := hrm.below hal
            replace hrt := hrt.below hal
            replace L := L.below hal
            replace hB := hB.trans (hal.mono hB.size)
            obtain ⟨gm, hgm⟩ : ∃ g, wi.heap.size = g := ⟨_, rfl⟩
            rw [hgm] at LM
            generalize wi.alloc (.cells #[.int .i64 mn, .slice MA1 mcs.length mk1, .slice MA2 mpl.length mk2, .slice MA3 mds.length mk3, .int .i64 mm] 37) = W7 at *
            (try rw [hgm])
            clear hgm hal hrm
            have b0 := (L 0 _ rfl).1
            have b1 := (L 1 _ rfl).1
            have b2 := (L 2 _ rfl).1
            have b3 := (L 3 _ rfl).1
            have b4 := (L 4 _ rfl).1
            have P1 := fun hb => put_t (t := ⟨n, m, cs, pl, ds⟩) HOK.out.ok hb
            have HC : Hid (∀ W, RdTheatre W (.slice A1 cs.length n1) (.slice A2 pl.length n2) (.slice A3 ds.length n3) cs pl ds → Calls Tryz.prog 43 #[.agg #[.int .i64 n, .slice A1 cs.length n1, .slice A2 pl.length n2, .slice A3 ds.length n3, .int .i64 m]] W (RetTh W.heap.size (putT (Th.mk n m cs pl ds)) W)) := fun W hr => implPutInOrder_any n m _ _ _ cs pl ds W hr hsz
            generalize putT (Th.mk n m cs pl ds) = r at *
            obtain ⟨⟨on, om, ocs, opl, ods⟩, ob⟩ := r
            dsimp only at P1
            have H1 := Lib.hid P1
            clear P1
            go_wp2_with fail
            refine (HC.out W7 hrt).mono ?_
            rintro e wj ⟨y1, y2, y3, S, rfl, ow, fr, hbn⟩
            have hro := ow.rd
            obtain ⟨⟨OA1, ok1, rfl⟩, ⟨OA2, ok2, rfl⟩, ⟨OA3, ok3, rfl⟩⟩ := hro.forms
            clear b0 b1 b2 b3 b4
            replace hrt := hrt.below hbn
            replace L := L.below hbn
            replace hB := hB.trans (hbn.mono hB.size)
            replace LM := LM.below hbn
            clear hbn HC ow fr
            go_upto_region 21 with (fail)
            have hal : Below wj.heap.size wj (wj.alloc (.cells #[.int .i64 on, .slice OA1 ocs.length ok1, .slice OA2 opl.length ok2, .slice OA3 ods.length ok3, .int .i64 om] 37)) := (Below.refl _ _).alloc (Nat.le_refl _) _
            have LO : Loc (wj.alloc (.cells #[.int .i64 on, .slice OA1 ocs.length ok1, .slice OA2 opl.length ok2, .slice OA3 ods.length ok3, .int .i64 om] 37)) wj.heap.size [.int .i64 on, .slice OA1 ocs.length ok1, .slice OA2 opl.length ok2, .slice OA3 ods.length ok3, .int .i64 om] := Loc.new wj #[.int .i64 on, .slice OA1 ocs.length ok1, .slice OA2 opl.length ok2, .slice OA3 ods.length ok3, .int .i64 om] 37
            replace hro := hro.below hal
            replace hrt := hrt.below hal
            replace L := L.below hal
            replace hB := hB.trans (hal.mono hB.size)
            replace LM := LM.below hal
            obtain ⟨gp, hgp⟩ : ∃ g, wj.heap.size = g := ⟨_, rfl⟩
            rw [hgp] at LO
            generalize wj.alloc (.cells #[.int .i64 on, .slice OA1 ocs.length ok1, .slice OA2 opl.length ok2, .slice OA3 ods.length ok3, .int .i64 om] 37) = W8 at *
            (try rw [hgp])
            clear hgp hal
            go_cut [212] from 18 to 212 (fun v wx => v = .bool false ∧ Below W8.heap.size W8 wx)
            case first =>
              have b0 := (L 0 _ rfl).1
              have b1 := (L 1 _ rfl).1
              have b2 := (L 2 _ rfl).1
              have b3 := (L 3 _ rfl).1
              have b4 := (L 4 _ rfl).1
              have c0 := (LO 0 _ rfl).1
              have c1 := (LO 1 _ rfl).1
              have c2 := (LO 2 _ rfl).1
              have c3 := (LO 3 _ rfl).1
              have c4 := (LO 4 _ rfl).1
              cases ob
              · skip
                go_wp2_with fail
                go_meet
                case rel => exact ⟨rfl, Below.refl _ _⟩
              · obtain ⟨e1, e2, _, _, _, e4, e5, e6⟩ := H1.out rfl
                subst e1 e2
                have hO := fun W hr => specOrderAfter_any n (.slice OA1 ocs.length ok1) ocs W hr
                rw [ordR_t e4, show orderF n ocs = upN n from e5] at hO
                have HO := Lib.hid hO
                have hC := fun v W hr => specCountInv_any v (upN n) W hr ((IsOrd.mk (List.Perm.refl _)).okB ⟨by omega, by omega⟩)
                rw [(IsOrd.inv_zero (IsOrd.mk (List.Perm.refl (upN n)))).2 rfl] at hC
                have HC := Lib.hid hC
                have hW := fun W hr => specWound_any n (.slice OA1 ocs.length ok1) ocs W hr e4
                rw [show woundL n ocs = [] from e6] at hW
                have HW := Lib.hid hW
                clear hO hC hW e4 e5 e6 H1
                go_wp2_with fail
                refine (HO.out W8 hro.1.1).mono ?_
                rintro e u1 ⟨v1, rfl, own1, hu1⟩
                have hr1 : RdL cInt 1 u1 v1 (upN n) := RdS.of_own own1
                obtain ⟨V1, c1', rfl, _, _⟩ := hr1.form
                clear own1
                go_wp2_with fail
                refine (HC.out _ u1 hr1).mono ?_
                rintro e u2 ⟨rfl, hu2⟩
                replace hu2 := bl_trans hu1 hu2
                clear hu1 hr1 b0 b1 b2 b3 b4 c0 c1 c2 c3 c4
                have L9 := L.below hu2
                have LO9 := LO.below hu2
                have b0 := (L9 0 _ rfl).1
                have b1 := (L9 1 _ rfl).1
                have b2 := (L9 2 _ rfl).1
                have b3 := (L9 3 _ rfl).1
                have b4 := (L9 4 _ rfl).1
                have c0 := (LO9 0 _ rfl).1
                have c1 := (LO9 1 _ rfl).1
                have c2 := (LO9 2 _ rfl).1
                have c3 := (LO9 3 _ rfl).1
                have c4 := (LO9 4 _ rfl).1
                go_wp2_with fail
                refine (HW.out u2 (hro.1.1.below hu2)).mono ?_
                rintro e u3 ⟨v3, rfl, hrx, hu3⟩
                obtain ⟨V3, c3', rfl, _, _⟩ := hrx.rd.form
                clear hrx
                replace hu3 := bl_trans hu2 hu3
                clear hu2 L9 LO9 b0 b1 b2 b3 b4 c0 c1 c2 c3 c4
                have L9 := L.below hu3
                have LO9 := LO.below hu3
                have b0 := (L9 0 _ rfl).1
                have b1 := (L9 1 _ rfl).1
                have b2 := (L9 2 _ rfl).1
                have b3 := (L9 3 _ rfl).1
                have b4 := (L9 4 _ rfl).1
                have c0 := (LO9 0 _ rfl).1
                have c1 := (LO9 1 _ rfl).1
                have c2 := (LO9 2 _ rfl).1
                have c3 := (LO9 3 _ rfl).1
                have c4 := (LO9 4 _ rfl).1
                go_wp2_with fail
                go_meet
                case rel => exact ⟨rfl, hu3⟩
            case rest =>
              clear hro LO H1
              obtain ⟨rfl, hcut⟩ := hcut
              obtain ⟨wk, hwx⟩ : ∃ x, wc = x := ⟨_, rfl⟩
              rw [hwx] at hcut ⊢
              clear hwx
              replace hrt := hrt.below hcut
              replace L := L.below hcut
              replace hB := hB.trans (hcut.mono hB.size)
              replace LM := LM.below hcut
              clear hcut
              have b0 := (L 0 _ rfl).1
              have b1 := (L 1 _ rfl).1
              have b2 := (L 2 _ rfl).1
              have b3 := (L 3 _ rfl).1
              have b4 := (L 4 _ rfl).1
              have hO := implOpenTheatre_any 3 50 wk
              unfold OpenPost at hO
              rw [show openB 3 50 = true by decide] at hO
              have hO2 : Calls Tryz.prog 47 #[.int .i64 3, .int .i64 50] wk fun e w' => ∃ x1 x2 x3 S, e = .returned (.tuple #[.agg #[.int .i64 3, x1, x2, x3, .int .i64 50], .bool true]) ∧ OwTheatre w' S x1 x2 x3 [] onePl [] ∧ Fresh wk.heap.size w' S ∧ Below wk.heap.size wk w' := hO
              clear hO
              go_wp2_with fail
              refine hO2.mono ?_
              rintro e wl ⟨y1, y2, y3, S, rfl, ow, fr, hbn⟩
              have hro := ow.rd
              obtain ⟨⟨OA1, ok1, rfl⟩, ⟨OA2, ok2, rfl⟩, ⟨OA3, ok3, rfl⟩⟩ := hro.forms
              clear b0 b1 b2 b3 b4
              replace hrt := hrt.below hbn
              replace L := L.below hbn
              replace hB := hB.trans (hbn.mono hB.size)
              replace LM := LM.below hbn
              clear hbn ow fr hO2
              go_upto_region 24 with (fail)
              have hal : Below wl.heap.size wl (wl.alloc (.cells #[.int .i64 3, .slice OA1 ([] : List RCross).length ok1, .slice OA2 onePl.length ok2, .slice OA3 ([] : List Int).length ok3, .int .i64 50] 37)) := (Below.refl _ _).alloc (Nat.le_refl _) _
              have LN : Loc (wl.alloc (.cells #[.int .i64 3, .slice OA1 ([] : List RCross).length ok1, .slice OA2 onePl.length ok2, .slice OA3 ([] : List Int).length ok3, .int .i64 50] 37)) wl.heap.size [.int .i64 3, .slice OA1 ([] : List RCross).length ok1, .slice OA2 onePl.length ok2, .slice OA3 ([] : List Int).length ok3, .int .i64 50] := Loc.new wl #[.int .i64 3, .slice OA1 ([] : List RCross).length ok1, .slice OA2 onePl.length ok2, .slice OA3 ([] : List Int).length ok3, .int .i64 50] 37
              replace hrt := hrt.below hal
              replace L := L.below hal
              replace hB := hB.trans (hal.mono hB.size)
              replace LM := LM.below hal
              obtain ⟨gn, hgn⟩ : ∃ g, wl.heap.size = g := ⟨_, rfl⟩
              rw [hgn] at LN
              generalize wl.alloc (.cells #[.int .i64 3, .slice OA1 ([] : List RCross).length ok1, .slice OA2 onePl.length ok2, .slice OA3 ([] : List Int).length ok3, .int .i64 50] 37) = W9 at *
              (try rw [hgn])
              clear hgn hal hro
              have b0 := (L 0 _ rfl).1
              have b1 := (L 1 _ rfl).1
              have b2 := (L 2 _ rfl).1
              have b3 := (L 3 _ rfl).1
              have b4 := (L 4 _ rfl).1
              have c0 := (LM 0 _ rfl).1
              have c1 := (LM 1 _ rfl).1
              have c2 := (LM 2 _ rfl).1
              have c3 := (LM 3 _ rfl).1
              have c4 := (LM 4 _ rfl).1
              have d0 := (LN 0 _ rfl).1
              have d1 := (LN 1 _ rfl).1
              have d2 := (LN 2 _ rfl).1
              have d3 := (LN 3 _ rfl).1
              have d4 := (LN 4 _ rfl).1
              have hn1 : (1 : Int) < (n : Int) := by omega
              by_cases h40 : cs.length < 40
              · have hb1 : mb = true := by rw [M1.out, decide_eq_true h40]
                subst hb1
                have e1 := M2.out rfl
                have h40' : (cs.length : Int) < 40 := by omega
                have hle : ((mcs.length : Int) == (cs.length : Int) + 1) = true := by rw [beq_iff_eq]; omega
                clear e1 M1 M2
                go_wp2_with fail
                refine (HT.out n m _ _ _ cs pl ds W9 hrt HOK.out.ok).mono ?_
                rintro e wm ⟨rfl, hbm⟩
                go_wp2_with fail
                go_ret
                exact ⟨rfl, hB.trans (hbm.mono hB.size)⟩
              · have hb1 : mb = false := by rw [M1.out, decide_eq_false h40]
                subst hb1
                have h40' : ¬ (cs.length : Int) < 40 := by omega
                have h40'' : decide ((cs.length : Int) < 40) = false := decide_eq_false h40'
                clear M1 M2
                go_wp2_with fail
                refine (HT.out n m _ _ _ cs pl ds W9 hrt HOK.out.ok).mono ?_
                rintro e wm ⟨rfl, hbm⟩
                go_wp2_with fail
                go_ret
                exact ⟨rfl, hB.trans (hbm.mono hB.size)⟩
set_option maxRecDepth 100000 in
set_option maxHeartbeats 1000000 in
theorem fnTheatres_lifted (os : Os) (started : os.Started) (H : Type) (enc : TypeId × Value → H) :
    ReturnsInHanded {} Tryz.checked os 6 .any (Rows.fnTheatresSpec.pre6 enc Tryz.prog Tryz.f6 Rows.fnTheatresRow.domain false) (Rows.fnTheatresSpec.post enc Tryz.prog Tryz.f6 false true false false) := by
  refine returnsInHanded_of_change (C := Tryz.checked) tryOwn started (by kernel_rfl) Tryz.func6
    (ChangeSpec.witness6 (enc := enc) (C := Tryz.checked) false ⟨#[], #[.slice none 0 0], []⟩ 12 (by kernel_rfl) (by kernel_rfl) (by kernel_rfl) (by kernel_rfl)) ?_
  intro W base args ds gs before hval0 hW hcnd _
  have hval : ∀ (j : Nat) t v, Tryz.f6.params[j]? = some t → args[j]? = some v → Value.okWide Tryz.prog W .any base t v := hval0
  have hW' := hW
  obtain ⟨p, q, hA0, hV, rfl, hfz, hnd⟩ := hW
  have hA : DataW.TrodAll enc Tryz.prog W 0 (fun _ => true) true Tryz.f6.params.toList args.toList ds p := hA0
  rw [Tryz.params6] at hA hval
  obtain ⟨v0, vs0, d0, ds0, p0, q0, hargs, rfl, rfl, h0, r0⟩ := trodAll_cons hA
  obtain ⟨rfl, rfl, rfl⟩ := trodAll_nil r0
  obtain rfl : args = #[v0] := by cases args; simp_all
  obtain ⟨rfl, rfl⟩ := trodVars_none hV
  have e0 := h0
  have lt0 : ∀ x ∈ p0, x.block < W.heap.size := by obtain ⟨m, hm⟩ := e0; exact DataW.trod_lt m _ _ _ hm
  have ok0 := hval 0 60 v0 rfl rfl
  clear hA0 hval0 hval
  obtain ⟨xs, hrd, hby⟩ := arg_slice Tryz.underlying60 ok0 h0 (opens_slice (f := cU8) (size := 1) Tryz.underlying60 (by kernel_rfl) (by omega) cU8_len (opens_u8 Tryz.underlying5))
  obtain ⟨A, c, rfl, _⟩ := RdS.form hrd
  refine (lawFnTheatres_any A c xs W hrd hby).mono fun e W' ⟨he, bel⟩ => ?_
  subst he
  exact ⟨_, rfl, _, _, _, [], _, [], hW', trodAll_mk1 (shut_bool Tryz.underlying4 _), (trodAll_cons_mk (Below.trod tryLaid (by kernel_rfl) (of_decide_eq_true (by kernel_rfl)) e0 bel lt0) trodAll_mk0), rfl, bel.frame _, fun h => by cases h⟩
theorem fnTheatres_holds : Rows.FnTheatresSaid :=
  OpenClaim.holds_of_wide 6 Tryz.f6 rfl rfl rfl rfl rfl rfl rfl ⟨rfl, rfl, rfl, rfl, rfl⟩ rfl rfl rfl rfl rfl (by kernel_rfl) Tryz.func6 (by kernel_rfl)
    (of_decide_eq_true (by kernel_rfl)) (by unfold Func.isWrapper; first | (rw [if_pos (by decide +kernel)]; kernel_rfl) | (rw [if_neg (by decide +kernel)]; exact ⟨rfl, rfl⟩))
    (fun os started H enc _ => fnTheatres_lifted os started H enc)
#print axioms fnTheatres_holds
end Go.Proofs.YtlhdeojkpmpecaaGreat
