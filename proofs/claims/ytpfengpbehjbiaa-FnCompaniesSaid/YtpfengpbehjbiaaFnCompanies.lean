/- FnCompanies: the law returns true for every input. No condition. Written by a program (gen_fco.py). -/
import Derived.Deep.DeepCutAuto
import Derived.OpenShut
import Derived.Test.YtpfengpbehjbiaaBdW8x2
import Derived.Test.YtpfengpbehjbiaaBdY7x9
import Derived.Test.YtpfengpbehjbiaaBdK7x15
import Derived.Test.YtpfengpbehjbiaaY2
import Derived.Test.YtpfengpbehjbiaaBdM5x7
import Derived.Test.YtpfengpbehjbiaaBdU3x2
import Derived.Test.YtpfengpbehjbiaaBdW1x3
import Derived.Test.YtpfengpbehjbiaaBdO1x2
namespace Go.Proofs.Ytpfengpbehjbiaa
open Go.ChangeShapes Go.WideShapes Go.ChangeAt Go.RowKit Go.Deep
def DrawnCo (w : World) (e : Ending) (w' : World) : Prop :=
 ∃ (n : Nat) (cs : List RCross) (pl : List RPl) (x1 x2 : Value) (S : List Nat), e = .returned (.agg #[.int .i64 n, x1, x2]) ∧ OwCompany w' S x1 x2 cs pl ∧ CoOk n cs pl ∧ Below w.heap.size w w'
set_option maxHeartbeats 2000000 in
set_option maxRecDepth 100000 in
theorem drawCompany_any (A : Option Addr) (c : Nat) (bs : List Int) (w : World) (h : RdL cU8 1 w (.slice A bs.length c) bs) (hby : ∀ x ∈ bs, 0 ≤ x ∧ x ≤ 255) (hlen : bs.length ≤ 1048576) :
  Calls Try.prog 5 #[.slice A bs.length c] w (DrawnCo w) := by
 go_enter Try.func5, Try.ntmps5
 have hb0 : Below w.heap.size w (w.alloc (.cells #[.int .i64 0, .slice none 0 0, .slice none 0 0] 27)) := (Below.refl _ _).alloc (Nat.le_refl _) _
 have lr : Loc (w.alloc (.cells #[.int .i64 0, .slice none 0 0, .slice none 0 0] 27)) w.heap.size [.int .i64 0, .slice none 0 0, .slice none 0 0] := Loc.new w #[.int .i64 0, .slice none 0 0, .slice none 0 0] 27
 have hz0 : w.heap.size < (w.alloc (.cells #[.int .i64 0, .slice none 0 0, .slice none 0 0] 27)).heap.size := by simp
 go_wp2_with fail
 generalize w.alloc (.cells #[.int .i64 0, .slice none 0 0, .slice none 0 0] 27) = V at *
 refine (l01New_any A c bs V (h.below hb0) hby hlen).mono ?_
 rintro e w1 ⟨g, rfl, hc⟩
 have hgV := hc.base
 have lr1 := lr.below hc.below
 go_wp2_with fail
 refine (l37Company_any V w1 g A c bs hc).mono ?_
 rintro e w2 ⟨n, cs, pl, x1, x2, S, rfl, ow, fr, hok, hc2, hch⟩
 obtain ⟨⟨A1, n1, rfl⟩, ⟨A2, n2, rfl⟩⟩ := ow.rd.forms
 have hz1 := hc.below.size
 have lr2 := lr1.chg hch (by simp; omega)
 have hb2 : Below w.heap.size w w2 := bl_trans hb0 hc2.below
 have hz2' := hb2.size
 have HFS : Hid (∀ b ∈ S, b ∉ [w.heap.size]) := fun b hb hb' => by have := (fr.2 b hb).1; simp at hb'; omega
 have HOW := Lib.hid ow
 obtain ⟨k0, f0⟩ := lr2 0 _ rfl
 obtain ⟨k1, f1⟩ := lr2 1 _ rfl
 obtain ⟨k2, f2⟩ := lr2 2 _ rfl
 have Hok := Lib.hid hok
 clear hok fr ow
 go_wp2_with fail
 have hch3 : Chg [w.heap.size] w2 (((w2.setCell ⟨w.heap.size, 0, none⟩ (.int .i64 n)).setCell ⟨w.heap.size, 1, none⟩ (.slice A1 cs.length n1)).setCell ⟨w.heap.size, 2, none⟩ (.slice A2 pl.length n2)) := by repeat' (with_reducible first | exact Chg.refl _ _ | refine qC ?_)
 exact bodyPost_ret (v := .agg #[.int .i64 n, .slice A1 cs.length n1, .slice A2 pl.length n2]) (by simp [results, Try.results5, go_sem, *]) rfl ⟨n, cs, pl, _, _, S, rfl, HOW.out.chg hch3 HFS.out, Hok.out, Below.chg hb2 hch3 hz2' (by simp)⟩
set_option maxRecDepth 100000 in
theorem act180fco {a : Act} (h : a.tmps.size = 180) (hd : a.defers = []) : a = ⟨List.toArray (a.tmps.getD 0 undef :: a.tmps.getD 1 undef :: a.tmps.getD 2 undef :: a.tmps.getD 3 undef :: a.tmps.getD 4 undef :: a.tmps.getD 5 undef :: a.tmps.getD 6 undef :: a.tmps.getD 7 undef :: a.tmps.getD 8 undef :: a.tmps.getD 9 undef :: a.tmps.getD 10 undef :: a.tmps.getD 11 undef :: a.tmps.getD 12 undef :: a.tmps.getD 13 undef :: a.tmps.getD 14 undef :: a.tmps.getD 15 undef :: a.tmps.getD 16 undef :: a.tmps.getD 17 undef :: a.tmps.getD 18 undef :: a.tmps.getD 19 undef :: a.tmps.getD 20 undef :: a.tmps.getD 21 undef :: a.tmps.getD 22 undef :: a.tmps.getD 23 undef :: a.tmps.getD 24 undef :: a.tmps.getD 25 undef :: a.tmps.getD 26 undef :: a.tmps.getD 27 undef :: a.tmps.getD 28 undef :: a.tmps.getD 29 undef :: a.tmps.getD 30 undef :: a.tmps.getD 31 undef :: a.tmps.getD 32 undef :: a.tmps.getD 33 undef :: a.tmps.getD 34 undef :: a.tmps.getD 35 undef :: a.tmps.getD 36 undef :: a.tmps.getD 37 undef :: a.tmps.getD 38 undef :: a.tmps.getD 39 undef :: a.tmps.getD 40 undef :: a.tmps.getD 41 undef :: a.tmps.getD 42 undef :: a.tmps.getD 43 undef :: a.tmps.getD 44 undef :: a.tmps.getD 45 undef :: a.tmps.getD 46 undef :: a.tmps.getD 47 undef :: a.tmps.getD 48 undef :: a.tmps.getD 49 undef :: a.tmps.getD 50 undef :: a.tmps.getD 51 undef :: a.tmps.getD 52 undef :: a.tmps.getD 53 undef :: a.tmps.getD 54 undef :: a.tmps.getD 55 undef :: a.tmps.getD 56 undef :: a.tmps.getD 57 undef :: a.tmps.getD 58 undef :: a.tmps.getD 59 undef :: a.tmps.getD 60 undef :: a.tmps.getD 61 undef :: a.tmps.getD 62 undef :: a.tmps.getD 63 undef :: a.tmps.getD 64 undef :: a.tmps.getD 65 undef :: a.tmps.getD 66 undef :: a.tmps.getD 67 undef :: a.tmps.getD 68 undef :: a.tmps.getD 69 undef :: a.tmps.getD 70 undef :: a.tmps.getD 71 undef :: a.tmps.getD 72 undef :: a.tmps.getD 73 undef :: a.tmps.getD 74 undef :: a.tmps.getD 75 undef :: a.tmps.getD 76 undef :: a.tmps.getD 77 undef :: a.tmps.getD 78 undef :: a.tmps.getD 79 undef :: a.tmps.getD 80 undef :: a.tmps.getD 81 undef :: a.tmps.getD 82 undef :: a.tmps.getD 83 undef :: a.tmps.getD 84 undef :: a.tmps.getD 85 undef :: a.tmps.getD 86 undef :: a.tmps.getD 87 undef :: a.tmps.getD 88 undef :: a.tmps.getD 89 undef :: a.tmps.getD 90 undef :: a.tmps.getD 91 undef :: a.tmps.getD 92 undef :: a.tmps.getD 93 undef :: a.tmps.getD 94 undef :: a.tmps.getD 95 undef :: a.tmps.getD 96 undef :: a.tmps.getD 97 undef :: a.tmps.getD 98 undef :: a.tmps.getD 99 undef :: a.tmps.getD 100 undef :: a.tmps.getD 101 undef :: a.tmps.getD 102 undef :: a.tmps.getD 103 undef :: a.tmps.getD 104 undef :: a.tmps.getD 105 undef :: a.tmps.getD 106 undef :: a.tmps.getD 107 undef :: a.tmps.getD 108 undef :: a.tmps.getD 109 undef :: a.tmps.getD 110 undef :: a.tmps.getD 111 undef :: a.tmps.getD 112 undef :: a.tmps.getD 113 undef :: a.tmps.getD 114 undef :: a.tmps.getD 115 undef :: a.tmps.getD 116 undef :: a.tmps.getD 117 undef :: a.tmps.getD 118 undef :: a.tmps.getD 119 undef :: a.tmps.getD 120 undef :: a.tmps.getD 121 undef :: a.tmps.getD 122 undef :: a.tmps.getD 123 undef :: a.tmps.getD 124 undef :: a.tmps.getD 125 undef :: a.tmps.getD 126 undef :: a.tmps.getD 127 undef :: a.tmps.getD 128 undef :: a.tmps.getD 129 undef :: a.tmps.getD 130 undef :: a.tmps.getD 131 undef :: a.tmps.getD 132 undef :: a.tmps.getD 133 undef :: a.tmps.getD 134 undef :: a.tmps.getD 135 undef :: a.tmps.getD 136 undef :: a.tmps.getD 137 undef :: a.tmps.getD 138 undef :: a.tmps.getD 139 undef :: a.tmps.getD 140 undef :: a.tmps.getD 141 undef :: a.tmps.getD 142 undef :: a.tmps.getD 143 undef :: a.tmps.getD 144 undef :: a.tmps.getD 145 undef :: a.tmps.getD 146 undef :: a.tmps.getD 147 undef :: a.tmps.getD 148 undef :: a.tmps.getD 149 undef :: a.tmps.getD 150 undef :: a.tmps.getD 151 undef :: a.tmps.getD 152 undef :: a.tmps.getD 153 undef :: a.tmps.getD 154 undef :: a.tmps.getD 155 undef :: a.tmps.getD 156 undef :: a.tmps.getD 157 undef :: a.tmps.getD 158 undef :: a.tmps.getD 159 undef :: a.tmps.getD 160 undef :: a.tmps.getD 161 undef :: a.tmps.getD 162 undef :: a.tmps.getD 163 undef :: a.tmps.getD 164 undef :: a.tmps.getD 165 undef :: a.tmps.getD 166 undef :: a.tmps.getD 167 undef :: a.tmps.getD 168 undef :: a.tmps.getD 169 undef :: a.tmps.getD 170 undef :: a.tmps.getD 171 undef :: a.tmps.getD 172 undef :: a.tmps.getD 173 undef :: a.tmps.getD 174 undef :: a.tmps.getD 175 undef :: a.tmps.getD 176 undef :: a.tmps.getD 177 undef :: a.tmps.getD 178 undef :: a.tmps.getD 179 undef :: []), []⟩ := act_eq 180 h hd
def pfco (gc n B : Nat) (A A1 A2 : Option Addr) (c n1 n2 : Nat) (bs : List Int) (cs xcs : List RCross) (pl : List RPl) (av r : Int) (xok : Bool) (i : Nat) (v : Value) (gh : Nat → Nat) (w : World) : Prop :=
 match i with
 | 0 => v = .agg #[.int .i64 n, .slice A1 cs.length n1, .slice A2 pl.length n2]
 | 1 => v = .slice A bs.length c
 | 2 => v = .int .i64 av
 | 3 => v = .int .i64 r
 | 4 => v = .bool (r == 0)
 | 5 => ∃ (X1 X2 : Option Addr) (q1 q2 : Nat), v = .tuple #[.agg #[.int .i64 n, .slice X1 xcs.length q1, .slice X2 pl.length q2], .bool xok] ∧ OwG B (fun w S => OwCompany w S (.slice X1 xcs.length q1) (.slice X2 pl.length q2) xcs pl) 1 gh w
 | 6 => ∃ (X1 X2 : Option Addr) (q1 q2 : Nat), v = .tuple #[.agg #[.int .i64 n, .slice X1 xcs.length q1, .slice X2 pl.length q2], .bool xok] ∧ OwG B (fun w S => OwCompany w S (.slice X1 xcs.length q1) (.slice X2 pl.length q2) xcs pl) 1 gh w
 | 7 => ∃ (X1 X2 : Option Addr) (q1 q2 : Nat), v = .agg #[.int .i64 n, .slice X1 xcs.length q1, .slice X2 pl.length q2] ∧ OwG B (fun w S => OwCompany w S (.slice X1 xcs.length q1) (.slice X2 pl.length q2) xcs pl) 1 gh w
 | 8 => v = .bool xok
 | 9 => ∃ xb, v = .pointer (some ⟨xb, 0, none⟩) ∧ B ≤ xb ∧ Loc w xb [.int .i64 0, .slice none 0 0, .slice none 0 0] ∧ gh xb = 2 ∧ xb < w.heap.size
 | _ => True
theorem why_bd4 {n : Nat} {cs : List RCross} {pl : List RPl} (h : companyB n cs pl = true) : 0 ≤ whyF n cs pl ∧ whyF n cs pl ≤ 3 := by
 rcases why_seen h with ⟨_, e⟩ | ⟨_, _, e⟩ | ⟨_, _, _, e⟩ | ⟨_, _, _, e⟩ <;> rw [e] <;> omega
set_option maxHeartbeats 8000000 in
set_option maxRecDepth 100000 in
theorem lawFnCompanies_any (A : Option Addr) (c : Nat) (bs : List Int) (w : World) (h : RdL cU8 1 w (.slice A bs.length c) bs) (hby : ∀ x ∈ bs, 0 ≤ x ∧ x ≤ 255) :
  Calls Try.prog 3 #[.slice A bs.length c] w fun e w' => e = .returned (.bool true) ∧ Below w.heap.size w w' := by
 have Hby := Lib.hid hby
 clear hby
 go_enter Try.func3, Try.ntmps3
 go_wp2_with (go_at_call 4; refine twoB (big_any _ _ _ _) (fun wb hc hb => ?_) (fun wb hc hb => ?_))
 ·go_ret
  exact ⟨rfl, hb⟩
 have hlen : bs.length ≤ 1048576 := by have := hc.out; simp at this; omega
 clear hc
 refine (drawCompany_any A c bs wb (h.below hb) Hby.out hlen).mono ?_
 rintro e w1 ⟨n, cs, pl, x1, x2, S, rfl, ow, hok, hb1⟩
 obtain ⟨⟨A1, n1, rfl⟩, ⟨A2, n2, rfl⟩⟩ := ow.rd.forms
 have hrt := ow.rd
 have hcode := (h.below hb).below hb1
 have hB : Below w.heap.size w w1 := bl_trans hb hb1
 have hn2 := hok.n2
 have hlp := hok.len
 have hlc : cs.length ≤ 40 := (crosses_len (company_n hok.ok).1).2.1
 have HOK := Lib.hid hok
 have HLEN := Lib.hid hlen
 have HSEEN := Lib.hid (why_seen hok.ok)
 have hal : Below w1.heap.size w1 (w1.alloc (.cells #[.int .i64 n, .slice A1 cs.length n1, .slice A2 pl.length n2] 27)) := (Below.refl _ _).alloc (Nat.le_refl _) _
 have L : Loc (w1.alloc (.cells #[.int .i64 n, .slice A1 cs.length n1, .slice A2 pl.length n2] 27)) w1.heap.size [.int .i64 n, .slice A1 cs.length n1, .slice A2 pl.length n2] := Loc.new w1 #[.int .i64 n, .slice A1 cs.length n1, .slice A2 pl.length n2] 27
 replace hrt := hrt.below hal
 replace hcode := hcode.below hal
 replace hB := bl_trans hB hal
 clear hok hb hb1 h ow hlen hal
 have HW : Hid (∀ v1 v2 W, RdCompany W v1 v2 cs pl → Calls Try.prog 6 #[.agg #[.int .i64 n, v1, v2]] W fun e w' => e = .returned (.int .i64 (whyF n cs pl)) ∧ Below W.heap.size W w') := fun v1 v2 W hr => implWhyNot_any n v1 v2 cs pl W hr
 have HCT := Lib.hid (co_tidy HOK.out.ok)
 have hap := fun W hr => implAllPuppets_any n (.slice A1 cs.length n1) (.slice A2 pl.length n2) cs pl W hr
 rw [allPF_t HOK.out.ok, show upF (n : Int) = upN n from rfl] at hap
 have HAP := Lib.hid hap
 have hcb := fun W hr => implCompanyOk_any n (.slice A1 cs.length n1) (.slice A2 pl.length n2) cs pl W hr
 rw [HOK.out.ok] at hcb
 have HCB := Lib.hid hcb
 have hoa := fun W hr => specOrderAfter_any n (.slice A1 cs.length n1) cs W hr
 rw [ordR_t (company_n HOK.out.ok).1] at hoa
 have HOA := Lib.hid hoa
 clear hap hcb hoa
 go_upto_region 4 with (fail)
 obtain ⟨gc, hgc⟩ : ∃ gc, w1.heap.size = gc := ⟨_, rfl⟩
 rw [hgc] at L ⊢
 generalize w1.alloc (.cells #[.int .i64 n, .slice A1 cs.length n1, .slice A2 pl.length n2] 27) = W1 at *
 clear hgc
 have b0 := (L 0 _ rfl).1
 have b1 := (L 1 _ rfl).1
 have b2 := (L 2 _ rfl).1
 have hul := upN_len n
 have hne : (((upN n).length : Int) != (n : Int)) = false := by rw [bne_eq_false_iff_eq, hul]
 have hwb := why_bd4 (n := n) (cs := cs) (pl := pl) HOK.out.ok
 generalize whyF n cs pl = wy at *
 clear hul
 go_wp2_with fail
 refine (HW.out _ _ W1 hrt).mono ?_
 rintro e w2 ⟨rfl, hb2⟩
 replace L := L.below hb2
 replace hrt := hrt.below hb2
 replace hcode := hcode.below hb2
 replace hB := bl_trans hB hb2
 clear b0 b1 b2
 have b0 := (L 0 _ rfl).1
 have b1 := (L 1 _ rfl).1
 have b2 := (L 2 _ rfl).1
 go_wp2_with fail
 refine (HAP.out w2 hrt).mono ?_
 rintro e w3 ⟨va, rfl, owna, hb3⟩
 have hra : RdL cInt 1 w3 va (upN n) := RdS.of_own owna
 obtain ⟨Aa, ca, rfl, _, _⟩ := hra.form
 clear owna HAP
 replace L := L.below hb3
 replace hrt := hrt.below hb3
 replace hcode := hcode.below hb3
 replace hB := bl_trans hB hb3
 clear b0 b1 b2
 have b0 := (L 0 _ rfl).1
 have b1 := (L 1 _ rfl).1
 have b2 := (L 2 _ rfl).1
 have hw0 : decide (wy < 0) = false := decide_eq_false (by omega)
 have hw3 : decide (3 < wy) = false := decide_eq_false (by omega)
 go_wp2_with fail
 refine (HCB.out w3 hrt).mono ?_
 rintro e w4 ⟨rfl, hb4⟩
 replace L := L.below hb4
 replace hrt := hrt.below hb4
 replace hcode := hcode.below hb4
 replace hB := bl_trans hB hb4
 clear b0 b1 b2
 have b0 := (L 0 _ rfl).1
 have b1 := (L 1 _ rfl).1
 have b2 := (L 2 _ rfl).1
 replace hra := hra.below hb4
 have hFC := fun W hl hp => specFirstCasting_any (.slice A2 pl.length n2) (.slice Aa (upN n).length ca) (upN n) pl W hl hp
 unfold RetCast at hFC
 have HCF : Hid (canF pl (upN n) = canF pl (upN n)) := rfl
 obtain ⟨cf, hcf⟩ : ∃ cf, canF pl (upN n) = cf := ⟨_, rfl⟩
 replace HCF : Hid (canF pl (upN n) = cf) := hcf
 rw [hcf] at hFC HSEEN
 clear hcf
 have HFC := Lib.hid hFC
 clear hFC
 go_wp2_with fail
 refine (HFC.out w4 hrt.2 hra).mono ?_
 rintro e w5 ⟨vo, rfl, hb5⟩
 replace L := L.below hb5
 replace hrt := hrt.below hb5
 replace hcode := hcode.below hb5
 replace hB := bl_trans hB hb5
 clear b0 b1 b2
 have b0 := (L 0 _ rfl).1
 have b1 := (L 1 _ rfl).1
 have b2 := (L 2 _ rfl).1
 clear hra HFC
 go_wp2_with fail
 refine (HOA.out w5 hrt.1).mono ?_
 rintro e w6 ⟨v6, rfl, own6, hb6⟩
 have hr6 : RdL cInt 1 w6 v6 (orderF n cs) := RdS.of_own own6
 obtain ⟨A6, c6, rfl, _, _⟩ := hr6.form
 clear own6
 replace L := L.below hb6
 replace hrt := hrt.below hb6
 replace hcode := hcode.below hb6
 replace hB := bl_trans hB hb6
 clear b0 b1 b2
 have b0 := (L 0 _ rfl).1
 have b1 := (L 1 _ rfl).1
 have b2 := (L 2 _ rfl).1
 have hio := IsOrd.order (crosses_len (company_n HOK.out.ok).1).2.2
 have hCI := fun W hr => specCountInv_any (.slice A6 (orderF n cs).length c6) (orderF n cs) W hr (hio.okB ⟨by omega, by omega⟩)
 have hiz := hio.inv_zero
 generalize inv (orderF n cs) = iv at *
 have HIZ := Lib.hid hiz
 have HCI := Lib.hid hCI
 have HWP := Lib.hid (fun W hr => specWound_any n (.slice A1 cs.length n1) cs W hr (company_n HOK.out.ok).1)
 clear hio hiz hCI
 go_wp2_with fail
 refine (HCI.out w6 hr6).mono ?_
 rintro e w7 ⟨rfl, hb7⟩
 replace L := L.below hb7
 replace hrt := hrt.below hb7
 replace hcode := hcode.below hb7
 replace hB := bl_trans hB hb7
 clear b0 b1 b2
 have b0 := (L 0 _ rfl).1
 have b1 := (L 1 _ rfl).1
 have b2 := (L 2 _ rfl).1
 clear hr6 HCI HOA
 go_wp2_with fail
 refine (HWP.out w7 hrt.1).mono ?_
 rintro e w8 ⟨v8, rfl, hrx, hb8⟩
 obtain ⟨A8, c8, rfl, _, _⟩ := hrx.rd.form
 replace L := L.below hb8
 replace hrt := hrt.below hb8
 replace hcode := hcode.below hb8
 replace hB := bl_trans hB hb8
 clear b0 b1 b2
 have b0 := (L 0 _ rfl).1
 have b1 := (L 1 _ rfl).1
 have b2 := (L 2 _ rfl).1
 clear hrx HWP
 go_upto_region 11 with (fail)
 obtain ⟨hm, hhm⟩ : ∃ hm, ((iv : Int) == 0) = hm := ⟨_, rfl⟩
 rw [hhm]
 obtain ⟨wd, hwd⟩ : ∃ wd, decide (0 < (woundL n cs).length) = wd := ⟨_, rfl⟩
 rw [hwd]
 have HHM : Hid (hm = decide (orderF n cs = upN n)) := by
  by_cases h : iv = 0
  ·have h2 := HIZ.out.1 h
   rw [Hid, ← hhm, decide_eq_true h2, h]; rfl
  ·have h2 : ¬ orderF n cs = upN n := fun e => h (HIZ.out.2 e)
   rw [Hid, ← hhm, decide_eq_false h2, beq_eq_false_iff_ne]; omega
 have HWD : Hid (wd = decide (¬ woundL n cs = [])) := by
  rw [Hid, ← hwd]
  exact decide_eq_decide.2 ⟨fun h e => by rw [e] at h; simp at h, fun h => List.length_pos_iff.2 h⟩
 clear hhm hwd HIZ
 go_cut [91] from 10 to 180 (fun v wx => v = .bool false ∧ Below w8.heap.size w8 wx)
 case first =>
  rcases HSEEN.out with ⟨h1, e⟩ | ⟨h1, h2, e⟩ | ⟨h1, h2, h3, e⟩ | ⟨h1, h2, h3, e⟩
  ·have e1 : hm = false := by rw [HHM.out, decide_eq_false h1]
   subst e e1
   clear h1
   go_wp2_with fail
   go_meet
   case rel => exact ⟨rfl, Below.refl _ _⟩
  ·have e1 : hm = true := by rw [HHM.out, decide_eq_true h1]
   have e2 : wd = true := by rw [HWD.out, decide_eq_true h2]
   subst e e1 e2
   clear h1 h2
   go_wp2_with fail
   go_meet
   case rel => exact ⟨rfl, Below.refl _ _⟩
  ·have e1 : hm = true := by rw [HHM.out, decide_eq_true h1]
   have e2 : wd = false := by rw [HWD.out, decide_eq_false (fun h => h h2)]
   subst e e1 e2 h3
   clear h1 h2
   go_wp2_with fail
   go_meet
   case rel => exact ⟨rfl, Below.refl _ _⟩
  ·have e1 : hm = true := by rw [HHM.out, decide_eq_true h1]
   have e2 : wd = false := by rw [HWD.out, decide_eq_false (fun h => h h2)]
   subst e e1 e2 h3
   clear h1 h2
   go_wp2_with fail
   go_meet
   case rel => exact ⟨rfl, Below.refl _ _⟩
 case rest =>
  obtain ⟨rfl, hcut⟩ := hcut
  clear b0 b1 b2
  replace hrt := hrt.below hcut
  replace hcode := hcode.below hcut
  replace L := L.below hcut
  replace hB := bl_trans hB hcut
  have b0 := (L 0 _ rfl).1
  have b1 := (L 1 _ rfl).1
  have b2 := (L 2 _ rfl).1
  have hsz : szCompany cs pl ≤ 1048576 := by have := companyB_sz HOK.out.ok; omega
  have HGO : Hid (∀ W, RdCompany W (.slice A1 cs.length n1) (.slice A2 pl.length n2) cs pl → Calls Try.prog 13 #[.agg #[.int .i64 n, .slice A1 cs.length n1, .slice A2 pl.length n2]] W (RetCompany n (goB n cs pl) (goC n cs pl) pl W)) := fun W hr => implGoHome_any n _ _ cs pl W hr hsz
  have P1 : goB n cs pl = true → _ := co_go HOK.out.ok
  generalize goB (n : Int) cs pl = gb at *
  generalize goC (n : Int) cs pl = hcs at *
  have HG1 := Lib.hid P1
  have HSZ := Lib.hid hsz
  clear P1 hsz hcut
  go_wp2_with fail
  refine (HGO.out _ hrt).mono ?_
  rintro e w9 ⟨y1, y2, S, rfl, ow, fr, hb9⟩
  have hrh := ow.rd
  obtain ⟨⟨H1, hk1, rfl⟩, ⟨H2, hk2, rfl⟩⟩ := hrh.forms
  clear b0 b1 b2
  replace hrt := hrt.below hb9
  replace hcode := hcode.below hb9
  replace L := L.below hb9
  replace hB := bl_trans hB hb9
  clear ow fr HGO hb9
  have b0 := (L 0 _ rfl).1
  have b1 := (L 1 _ rfl).1
  have b2 := (L 2 _ rfl).1
  go_upto_region 14 with (fail)
  have hal : Below w9.heap.size w9 (w9.alloc (.cells #[.int .i64 n, .slice H1 hcs.length hk1, .slice H2 pl.length hk2] 27)) := (Below.refl _ _).alloc (Nat.le_refl _) _
  have LH : Loc (w9.alloc (.cells #[.int .i64 n, .slice H1 hcs.length hk1, .slice H2 pl.length hk2] 27)) w9.heap.size [.int .i64 n, .slice H1 hcs.length hk1, .slice H2 pl.length hk2] := Loc.new w9 #[.int .i64 n, .slice H1 hcs.length hk1, .slice H2 pl.length hk2] 27
  replace hrh := hrh.below hal
  replace hrt := hrt.below hal
  replace hcode := hcode.below hal
  replace L := L.below hal
  replace hB := bl_trans hB hal
  obtain ⟨gh, hgh⟩ : ∃ g, w9.heap.size = g := ⟨_, rfl⟩
  rw [hgh] at LH
  generalize w9.alloc (.cells #[.int .i64 n, .slice H1 hcs.length hk1, .slice H2 pl.length hk2] 27) = W2 at *
  (try rw [hgh])
  clear hgh hal
  clear b0 b1 b2
  have b0 := (L 0 _ rfl).1
  have b1 := (L 1 _ rfl).1
  have b2 := (L 2 _ rfl).1
  go_upto_if 97 with (fail)
  go_cut [] from 12 to 118 (fun wx => Below W2.heap.size W2 wx)
  case first =>
   clear L hrt hcode hB b0 b1 b2
   have c0 := (LH 0 _ rfl).1
   have c1 := (LH 1 _ rfl).1
   have c2 := (LH 2 _ rfl).1
   cases gb
   ·skip
    go_wp2_with fail
    go_meet
    case rel => exact Below.refl _ _
   ·obtain ⟨hco, hord⟩ := HG1.out rfl
    have hsz2 : szCompany hcs pl ≤ 1048576 := by have := companyB_sz hco; omega
    have HU : Hid (∀ W, RdCompany W (.slice H1 hcs.length hk1) (.slice H2 pl.length hk2) hcs pl → Calls Try.prog 14 #[.agg #[.int .i64 n, .slice H1 hcs.length hk1, .slice H2 pl.length hk2]] W (RetCompany n (untB n hcs pl) (untC n hcs pl) pl W)) := fun W hr => implUntwist_any n _ _ hcs pl W hr hsz2
    have P2 : untB n hcs pl = true → _ := co_unt hco hord
    have HH : Hid (∀ v1 v2 W, RdCompany W v1 v2 hcs pl → Calls Try.prog 6 #[.agg #[.int .i64 n, v1, v2]] W fun e w' => e = .returned (.int .i64 (whyF n hcs pl)) ∧ Below W.heap.size W w') := fun v1 v2 W hr => implWhyNot_any n v1 v2 hcs pl W hr
    have hy1 : ((whyF n hcs pl) == 1) = false := by rw [beq_eq_false_iff_ne]; exact why_home hco hord
    generalize whyF (n : Int) hcs pl = hy at *
    have P3 : untB n hcs pl = true → ∀ v1 v2 W, RdCompany W v1 v2 (untC n hcs pl) pl → Calls Try.prog 6 #[.agg #[.int .i64 n, v1, v2]] W fun e w' => e = .returned (.int .i64 (if cf = true then 0 else 3)) ∧ Below W.heap.size W w' := fun ht v1 v2 W hr => by
     obtain ⟨q1, q2, q3⟩ := P2 ht
     have := implWhyNot_any n v1 v2 _ pl W hr
     rw [why_free q1 q2 q3, HCF.out] at this
     exact this
    generalize untB (n : Int) hcs pl = ub at *
    generalize untC (n : Int) hcs pl = ucs at *
    have HP3 := Lib.hid P3
    clear P2 P3 hco hord hsz2 HG1
    go_wp2_with fail
    refine (HU.out _ hrh).mono ?_
    rintro e w10 ⟨y1, y2, S, rfl, ow, fr, hkb⟩
    have hru := ow.rd
    obtain ⟨⟨U1, uk1, rfl⟩, ⟨U2, uk2, rfl⟩⟩ := hru.forms
    clear c0 c1 c2 ow fr HU
    replace LH := LH.below hkb
    replace hrh := hrh.below hkb
    have c0 := (LH 0 _ rfl).1
    have c1 := (LH 1 _ rfl).1
    have c2 := (LH 2 _ rfl).1
    go_upto_region 16 with (fail)
    have hal : Below w10.heap.size w10 (w10.alloc (.cells #[.int .i64 n, .slice U1 ucs.length uk1, .slice U2 pl.length uk2] 27)) := (Below.refl _ _).alloc (Nat.le_refl _) _
    have LU : Loc (w10.alloc (.cells #[.int .i64 n, .slice U1 ucs.length uk1, .slice U2 pl.length uk2] 27)) w10.heap.size [.int .i64 n, .slice U1 ucs.length uk1, .slice U2 pl.length uk2] := Loc.new w10 #[.int .i64 n, .slice U1 ucs.length uk1, .slice U2 pl.length uk2] 27
    replace hru := hru.below hal
    replace hrh := hrh.below hal
    replace LH := LH.below hal
    replace hkb := bl_trans hkb hal
    obtain ⟨gu, hgu⟩ : ∃ g, w10.heap.size = g := ⟨_, rfl⟩
    rw [hgu] at LU
    generalize w10.alloc (.cells #[.int .i64 n, .slice U1 ucs.length uk1, .slice U2 pl.length uk2] 27) = W3 at *
    (try rw [hgu])
    clear hgu hal
    clear c0 c1 c2
    have c0 := (LH 0 _ rfl).1
    have c1 := (LH 1 _ rfl).1
    have c2 := (LH 2 _ rfl).1
    have d0 := (LU 0 _ rfl).1
    have d1 := (LU 1 _ rfl).1
    have d2 := (LU 2 _ rfl).1
    cases ub
    ·clear d0 d1 d2
     go_wp2_with fail
     refine (HH.out _ _ _ hrh).mono ?_
     rintro e w11 ⟨rfl, hb11⟩
     go_wp2_with fail
     go_meet
     case rel => exact bl_trans hkb hb11
    ·have hC := HP3.out rfl _ _ _ hru
     clear HP3
     cases cf
     ·rw [if_neg (by simp)] at hC
      have hbt := fun W => btoi_any true W
      rw [if_pos rfl] at hbt
      have HBT := Lib.hid hbt
      clear hbt
      go_wp2_with fail
      refine hC.mono ?_
      rintro e w11 ⟨rfl, hb11⟩
      replace LH := LH.below hb11
      replace hrh := hrh.below hb11
      replace hkb := bl_trans hkb hb11
      clear c0 c1 c2 d0 d1 d2 hC hb11
      have c0 := (LH 0 _ rfl).1
      have c1 := (LH 1 _ rfl).1
      have c2 := (LH 2 _ rfl).1
      go_wp2_with fail
      refine (HBT.out _).mono ?_
      rintro e w12 ⟨rfl, hb12⟩
      replace LH := LH.below hb12
      replace hrh := hrh.below hb12
      replace hkb := bl_trans hkb hb12
      clear c0 c1 c2 hb12
      have c0 := (LH 0 _ rfl).1
      have c1 := (LH 1 _ rfl).1
      have c2 := (LH 2 _ rfl).1
      go_wp2_with fail
      refine (HH.out _ _ _ hrh).mono ?_
      rintro e w13 ⟨rfl, hb13⟩
      go_wp2_with fail
      go_meet
      case rel => exact bl_trans hkb hb13
     ·rw [if_pos rfl] at hC
      have hbt := fun W => btoi_any false W
      rw [if_neg (by simp)] at hbt
      have HBT := Lib.hid hbt
      clear hbt
      go_wp2_with fail
      refine hC.mono ?_
      rintro e w11 ⟨rfl, hb11⟩
      replace LH := LH.below hb11
      replace hrh := hrh.below hb11
      replace hkb := bl_trans hkb hb11
      clear c0 c1 c2 d0 d1 d2 hC hb11
      have c0 := (LH 0 _ rfl).1
      have c1 := (LH 1 _ rfl).1
      have c2 := (LH 2 _ rfl).1
      go_wp2_with fail
      refine (HBT.out _).mono ?_
      rintro e w12 ⟨rfl, hb12⟩
      replace LH := LH.below hb12
      replace hrh := hrh.below hb12
      replace hkb := bl_trans hkb hb12
      clear c0 c1 c2 hb12
      have c0 := (LH 0 _ rfl).1
      have c1 := (LH 1 _ rfl).1
      have c2 := (LH 2 _ rfl).1
      go_wp2_with fail
      refine (HH.out _ _ _ hrh).mono ?_
      rintro e w13 ⟨rfl, hb13⟩
      go_wp2_with fail
      go_meet
      case rel => exact bl_trans hkb hb13
  case rest =>
   obtain ⟨wr, hwr⟩ : ∃ x, wc = x := ⟨_, rfl⟩
   rw [hwr] at hcut ⊢
   clear hwr HG1 LH hrh b0 b1 b2
   replace hrt := hrt.below hcut
   replace hcode := hcode.below hcut
   replace L := L.below hcut
   replace hB := bl_trans hB hcut
   clear hcut
   have b0 := (L 0 _ rfl).1
   have b1 := (L 1 _ rfl).1
   have b2 := (L 2 _ rfl).1
   have hav := atV_bd Hby.out 0
   have HAV := Lib.hid (fun W hr => at_v A c bs 0 W hr Hby.out HLEN.out (by omega))
   obtain ⟨r, haj⟩ : ∃ r, (atV bs 0).tmod 2 = r := ⟨_, rfl⟩
   generalize atV bs 0 = av at *
   have HCO : Hid (∀ W, RdCompany W (.slice A1 cs.length n1) (.slice A2 pl.length n2) cs pl → Calls Try.prog 16 #[.agg #[.int .i64 n, .slice A1 cs.length n1, .slice A2 pl.length n2], .int .i64 0, .bool (r == 0)] W (RetCompany n (withB n cs pl [(0, r == 0)]) (withC n cs pl [(0, r == 0)]) pl W)) := fun W hr => implCrossOver_any n 0 (r == 0) _ _ cs pl W hr HSZ.out
   have hx1 := co_cross HOK.out (r == 0)
   rw [decide_eq_true (show 1 < n by omega), Bool.true_and] at hx1
   have hx2 : withB n cs pl [(0, r == 0)] = true → szCompany (withC n cs pl [(0, r == 0)]) pl ≤ 1048576 ∧ takeB n (withC n cs pl [(0, r == 0)]) pl = true ∧ takeC n (withC n cs pl [(0, r == 0)]) pl = cs := fun ht => by
    have hc : companyB n (cs ++ [(0, r == 0)]) pl = true := by rw [withB, Bool.and_eq_true] at ht; exact ht.2
    have e1 : withC n cs pl [(0, r == 0)] = cs ++ [(0, r == 0)] := by unfold withC; exact if_pos ht
    have e2 : takeB n (cs ++ [(0, r == 0)]) pl = true := by rw [takeB, hc, List.length_append]; simp
    rw [e1]
    refine ⟨by have := companyB_sz hc; omega, e2, ?_⟩
    unfold takeC
    rw [if_pos e2]; simp
   have HX1 := Lib.hid hx1
   have HTB : Hid (withB n cs pl [(0, r == 0)] = true → ∀ v1 v2 W, RdCompany W v1 v2 (withC n cs pl [(0, r == 0)]) pl → Calls Try.prog 18 #[.agg #[.int .i64 n, v1, v2]] W (RetCompany n true cs pl W)) := fun ht v1 v2 W hr => by
    obtain ⟨q1, q2, q3⟩ := hx2 ht
    have := implTakeBack_any n v1 v2 _ pl W hr q1
    rw [q2, q3] at this
    exact this
   clear hx1 hx2
   generalize withB (n : Int) cs pl [(0, r == 0)] = xok at *
   generalize withC (n : Int) cs pl [(0, r == 0)] = xcs at *
   go_upto_region 18 with (fail)
   clear b0 b1 b2
   go_cut [14, 15] (fun s14 s15 wx => ∃ (xb : Nat) (X1 X2 : Option Addr) (q1 q2 : Nat), s14 = .pointer (some ⟨xb, 0, none⟩) ∧ s15 = .bool xok ∧ Loc wx xb [.int .i64 n, .slice X1 xcs.length q1, .slice X2 pl.length q2] ∧ RdCompany wx (.slice X1 xcs.length q1) (.slice X2 pl.length q2) xcs pl ∧ Below wr.heap.size wr wx)
   case first =>
    refine region_pendL (n := 180) 10 8 (by kernel_rfl) rfl (by kernel_rfl) [] (by kernel_rfl) (fun _ => false) (fun w' => Below wr.heap.size wr w') (fun i => if i = 9 then 2 else 1) (pfco gc n wr.heap.size A A1 A2 c n1 n2 bs cs xcs pl av r xok) trivial (Below.refl _ _).drew ?_ ?_ ?_ ?_
    ·intro i v gh gh' w1 w2 hp hJ hb' hg
     match i, hp with
     | 0, hp => exact hp
     | 1, hp => exact hp
     | 2, hp => exact hp
     | 3, hp => exact hp
     | 4, hp => exact hp
     | 5, hp => exact (by obtain ⟨X1, X2, q1, q2, h1, h2⟩ := hp; exact ⟨X1, X2, q1, q2, h1, h2.keep (fun S h => h.below hb') hb' hg⟩)
     | 6, hp => exact (by obtain ⟨X1, X2, q1, q2, h1, h2⟩ := hp; exact ⟨X1, X2, q1, q2, h1, h2.keep (fun S h => h.below hb') hb' hg⟩)
     | 7, hp => exact (by obtain ⟨X1, X2, q1, q2, h1, h2⟩ := hp; exact ⟨X1, X2, q1, q2, h1, h2.keep (fun S h => h.below hb') hb' hg⟩)
     | 8, hp => exact hp
     | 9, hp => exact (by obtain ⟨xb, h1, h2, h3, h4, h5⟩ := hp; exact ⟨xb, h1, h2, h3.below hb', (hg _ h5).trans h4, Nat.lt_of_lt_of_le h5 hb'.size⟩)
     | _ + 10, _ => trivial
    ·refine ⟨?_, ?_, ?_, ?_, ?_, ?_, ?_, ?_, ?_, ?_, trivial⟩
     ·intro a gh w5 hag hJ hd
      dsimp only [bareO]
      have ag3 : a.tmps.getD 3 undef = .pointer (some ⟨gc, 0, none⟩) := hag.kept 3 (by kernel_rfl)
      clear hag
      have k0 := ((L.below hJ) 0 _ rfl).1
      have k1 := ((L.below hJ) 1 _ rfl).1
      have k2 := ((L.below hJ) 2 _ rfl).1
      go_wp2_with fail
      exact ⟨rfl, _, rfl, rfl, hJ, Below.refl _ _⟩
     ·intro a gh w5 hag hJ hd
      dsimp only [bareO]
      have ag0 : a.tmps.getD 0 undef = .slice A bs.length c := hag.kept 0 (by kernel_rfl)
      clear hag
      go_wp2_with fail
      exact ⟨rfl, _, rfl, rfl, hJ, Below.refl _ _⟩
     ·intro a gh w5 hag hJ hd
      dsimp only [bareO]
      clear hag
      have e0 : a.tmps.getD 120 undef = .slice A bs.length c := hd 1 (by kernel_rfl) _ rfl
      go_wp2_with fail
      refine (HAV.out w5 (hcode.below hJ)).mono ?_
      rintro e w6 ⟨rfl, rfl⟩
      go_wp2_with fail
      exact ⟨rfl, _, rfl, rfl, hJ, Below.refl _ _⟩
     ·intro a gh w5 hag hJ hd
      dsimp only [bareO]
      clear hag
      have e0 : a.tmps.getD 121 undef = .int .i64 av := hd 2 (by kernel_rfl) _ rfl
      go_wp2_with fail
      exact ⟨rfl, _, rfl, by first | exact congrArg (Value.int .i64) haj | rw [haj] | rfl, hJ, Below.refl _ _⟩
     ·intro a gh w5 hag hJ hd
      dsimp only [bareO]
      clear hag
      have e0 : a.tmps.getD 122 undef = .int .i64 r := hd 3 (by kernel_rfl) _ rfl
      go_wp2_with fail
      exact ⟨rfl, _, rfl, rfl, hJ, Below.refl _ _⟩
     ·intro a gh w5 hag hJ hd
      dsimp only [bareO]
      clear hag
      have e0 : a.tmps.getD 119 undef = .agg #[.int .i64 n, .slice A1 cs.length n1, .slice A2 pl.length n2] := hd 0 (by kernel_rfl) _ rfl
      have e1 : a.tmps.getD 123 undef = .bool (r == 0) := hd 4 (by kernel_rfl) _ rfl
      go_wp2_with fail
      refine (HCO.out w5 (hrt.below hJ)).mono ?_
      rintro e w6 ⟨y1, y2, S9, rfl, ow9, fr9, hb9⟩
      obtain ⟨⟨X1, q1, rfl⟩, ⟨X2, q2, rfl⟩⟩ := ow9.rd.forms
      go_wp2_with fail
      exact ⟨rfl, _, rfl, ⟨X1, X2, q1, q2, rfl, OwG.of_fresh ow9 fr9 hJ.size⟩, bl_trans hJ hb9, hb9⟩
     ·intro a gh w5 hag hJ hd
      dsimp only [bareO]
      clear hag
      obtain ⟨X1, X2, q1, q2, e0, h2⟩ : ∃ (X1 X2 : Option Addr) (q1 q2 : Nat), a.tmps.getD 124 undef = .tuple #[.agg #[.int .i64 n, .slice X1 xcs.length q1, .slice X2 pl.length q2], .bool xok] ∧ OwG wr.heap.size (fun w S => OwCompany w S (.slice X1 xcs.length q1) (.slice X2 pl.length q2) xcs pl) 1 gh w5 := hd 5 (by kernel_rfl) _ rfl
      go_wp2_with fail
      exact ⟨rfl, _, rfl, ⟨X1, X2, q1, q2, rfl, h2.same _⟩, hJ, Below.refl _ _⟩
     ·intro a gh w5 hag hJ hd
      dsimp only [bareO]
      clear hag
      obtain ⟨X1, X2, q1, q2, e0, h2⟩ : ∃ (X1 X2 : Option Addr) (q1 q2 : Nat), a.tmps.getD 118 undef = .tuple #[.agg #[.int .i64 n, .slice X1 xcs.length q1, .slice X2 pl.length q2], .bool xok] ∧ OwG wr.heap.size (fun w S => OwCompany w S (.slice X1 xcs.length q1) (.slice X2 pl.length q2) xcs pl) 1 gh w5 := hd 6 (by kernel_rfl) _ rfl
      go_wp2_with fail
      exact ⟨rfl, _, rfl, ⟨X1, X2, q1, q2, rfl, h2.same _⟩, hJ, Below.refl _ _⟩
     ·intro a gh w5 hag hJ hd
      dsimp only [bareO]
      clear hag
      obtain ⟨X1, X2, q1, q2, e0, h2⟩ : ∃ (X1 X2 : Option Addr) (q1 q2 : Nat), a.tmps.getD 118 undef = .tuple #[.agg #[.int .i64 n, .slice X1 xcs.length q1, .slice X2 pl.length q2], .bool xok] ∧ OwG wr.heap.size (fun w S => OwCompany w S (.slice X1 xcs.length q1) (.slice X2 pl.length q2) xcs pl) 1 gh w5 := hd 6 (by kernel_rfl) _ rfl
      go_wp2_with fail
      exact ⟨rfl, _, rfl, rfl, hJ, Below.refl _ _⟩
     ·intro a gh w5 hag hJ hd
      dsimp only [bareO]
      clear hag
      go_wp2_with fail
      exact ⟨rfl, _, rfl, ⟨w5.heap.size, rfl, hJ.size, Loc.new w5 #[.int .i64 0, .slice none 0 0, .slice none 0 0] 27, if_neg (Nat.lt_irrefl _), by simp⟩, hJ.alloc hJ.size _, (Below.refl _ _).alloc (Nat.le_refl _) _⟩
    ·intro a gh w5 hag hJ hd
     have ag0 : a.tmps.getD 0 undef = .slice A bs.length c := hag.kept 0 (by kernel_rfl)
     have ag1 := hag.kept 1 (by kernel_rfl)
     have ag2 := hag.kept 2 (by kernel_rfl)
     have ag3 : a.tmps.getD 3 undef = .pointer (some ⟨gc, 0, none⟩) := hag.kept 3 (by kernel_rfl)
     have ag4 := hag.kept 4 (by kernel_rfl)
     have ag5 := hag.kept 5 (by kernel_rfl)
     have ag6 := hag.kept 6 (by kernel_rfl)
     have ag7 := hag.kept 7 (by kernel_rfl)
     have ag8 := hag.kept 8 (by kernel_rfl)
     have ag9 := hag.kept 9 (by kernel_rfl)
     have ag10 := hag.kept 10 (by kernel_rfl)
     have ag11 := hag.kept 11 (by kernel_rfl)
     have ag12 := hag.kept 12 (by kernel_rfl)
     have ag13 := hag.kept 13 (by kernel_rfl)
     have ag16 := hag.kept 16 (by kernel_rfl)
     have ag17 := hag.kept 17 (by kernel_rfl)
     have ag18 := hag.kept 18 (by kernel_rfl)
     rw [act180fco hag.size hag.defers]
     clear hag
     obtain ⟨X1, X2, q1, q2, e0, h2⟩ : ∃ (X1 X2 : Option Addr) (q1 q2 : Nat), a.tmps.getD 125 undef = .agg #[.int .i64 n, .slice X1 xcs.length q1, .slice X2 pl.length q2] ∧ OwG wr.heap.size (fun w S => OwCompany w S (.slice X1 xcs.length q1) (.slice X2 pl.length q2) xcs pl) 1 gh w5 := hd 7 (by kernel_rfl) _ rfl
     obtain ⟨xb, e14, hxb, Lx, hgx, hxlt⟩ : ∃ xb, a.tmps.getD 14 undef = .pointer (some ⟨xb, 0, none⟩) ∧ wr.heap.size ≤ xb ∧ Loc w5 xb [.int .i64 0, .slice none 0 0, .slice none 0 0] ∧ gh xb = 2 ∧ xb < w5.heap.size := hd 9 (by kernel_rfl) _ rfl
     have e15 : a.tmps.getD 126 undef = .bool xok := hd 8 (by kernel_rfl) _ rfl
     rw [ag0, ag1, ag2, ag3, ag4, ag5, ag6, ag7, ag8, ag9, ag10, ag11, ag12, ag13, ag16, ag17, ag18, e0, e14, e15]
     change wpList _ _ _ [_, _] _ _
     obtain ⟨S9, ow9, hnd9, hcl9⟩ := h2
     have hxS : ∀ b ∈ S9, b ∉ [xb] := fun b hb hb' => by have h1 := (hcl9 b hb).2; simp at hb'; subst hb'; omega
     have HX := Lib.hid hxS
     have HOW := Lib.hid ow9
     have x0 := (Lx 0 _ rfl).1
     have x1 := (Lx 1 _ rfl).1
     have x2 := (Lx 2 _ rfl).1
     have f0 := (Lx 0 _ rfl).2
     have f1 := (Lx 1 _ rfl).2
     have f2 := (Lx 2 _ rfl).2
     clear hd hcl9 ow9 hxS hgx hnd9
     go_wp2_with fail
     go_meet
     case rel =>
      have hch : Chg [xb] w5 (((w5.setCell ⟨xb, 0, none⟩ (.int .i64 n)).setCell ⟨xb, 1, none⟩ (.slice X1 xcs.length q1)).setCell ⟨xb, 2, none⟩ (.slice X2 pl.length q2)) := by repeat' (with_reducible first | exact Chg.refl _ _ | refine qC ?_)
      exact ⟨xb, X1, X2, q1, q2, rfl, rfl, (((Lx.set (i := 0) (u := .int .i64 n) (v := .int .i64 0) rfl).set (i := 1) (u := .slice X1 xcs.length q1) (v := .slice none 0 0) rfl).set (i := 2) (u := .slice X2 pl.length q2) (v := .slice none 0 0) rfl), (HOW.out.chg hch HX.out).rd, Below.chg hJ hch hJ.size (by simp; omega)⟩
    ·intro a gh w5 hag hJ hd
     have ag0 : a.tmps.getD 0 undef = .slice A bs.length c := hag.kept 0 (by kernel_rfl)
     have ag1 := hag.kept 1 (by kernel_rfl)
     have ag2 := hag.kept 2 (by kernel_rfl)
     have ag3 : a.tmps.getD 3 undef = .pointer (some ⟨gc, 0, none⟩) := hag.kept 3 (by kernel_rfl)
     have ag4 := hag.kept 4 (by kernel_rfl)
     have ag5 := hag.kept 5 (by kernel_rfl)
     have ag6 := hag.kept 6 (by kernel_rfl)
     have ag7 := hag.kept 7 (by kernel_rfl)
     have ag8 := hag.kept 8 (by kernel_rfl)
     have ag9 := hag.kept 9 (by kernel_rfl)
     have ag10 := hag.kept 10 (by kernel_rfl)
     have ag11 := hag.kept 11 (by kernel_rfl)
     have ag12 := hag.kept 12 (by kernel_rfl)
     have ag13 := hag.kept 13 (by kernel_rfl)
     have ag16 := hag.kept 16 (by kernel_rfl)
     have ag17 := hag.kept 17 (by kernel_rfl)
     have ag18 := hag.kept 18 (by kernel_rfl)
     rw [act180fco hag.size hag.defers]
     clear hag
     obtain ⟨X1, X2, q1, q2, e0, h2⟩ : ∃ (X1 X2 : Option Addr) (q1 q2 : Nat), a.tmps.getD 125 undef = .agg #[.int .i64 n, .slice X1 xcs.length q1, .slice X2 pl.length q2] ∧ OwG wr.heap.size (fun w S => OwCompany w S (.slice X1 xcs.length q1) (.slice X2 pl.length q2) xcs pl) 1 gh w5 := hd 7 (by kernel_rfl) (by decide) _ rfl
     obtain ⟨xb, e14, hxb, Lx, hgx, hxlt⟩ : ∃ xb, a.tmps.getD 14 undef = .pointer (some ⟨xb, 0, none⟩) ∧ wr.heap.size ≤ xb ∧ Loc w5 xb [.int .i64 0, .slice none 0 0, .slice none 0 0] ∧ gh xb = 2 ∧ xb < w5.heap.size := hd 9 (by kernel_rfl) (by decide) _ rfl
     obtain ⟨X3, X4, q3, q4, e118, _⟩ : ∃ (X1 X2 : Option Addr) (q1 q2 : Nat), a.tmps.getD 118 undef = .tuple #[.agg #[.int .i64 n, .slice X1 xcs.length q1, .slice X2 pl.length q2], .bool xok] ∧ OwG wr.heap.size (fun w S => OwCompany w S (.slice X1 xcs.length q1) (.slice X2 pl.length q2) xcs pl) 1 gh w5 := hd 6 (by kernel_rfl) (by decide) _ rfl
     rw [ag0, ag1, ag2, ag3, ag4, ag5, ag6, ag7, ag8, ag9, ag10, ag11, ag12, ag13, ag16, ag17, ag18, e0, e14, e118]
     change wpList _ _ _ [_, _, _] _ _
     obtain ⟨S9, ow9, hnd9, hcl9⟩ := h2
     have hxS : ∀ b ∈ S9, b ∉ [xb] := fun b hb hb' => by have h1 := (hcl9 b hb).2; simp at hb'; subst hb'; omega
     have HX := Lib.hid hxS
     have HOW := Lib.hid ow9
     have x0 := (Lx 0 _ rfl).1
     have x1 := (Lx 1 _ rfl).1
     have x2 := (Lx 2 _ rfl).1
     have f0 := (Lx 0 _ rfl).2
     have f1 := (Lx 1 _ rfl).2
     have f2 := (Lx 2 _ rfl).2
     clear hd hcl9 ow9 hxS hgx hnd9
     go_wp2_with fail
     go_meet
     case rel =>
      have hch : Chg [xb] w5 (((w5.setCell ⟨xb, 0, none⟩ (.int .i64 n)).setCell ⟨xb, 1, none⟩ (.slice X1 xcs.length q1)).setCell ⟨xb, 2, none⟩ (.slice X2 pl.length q2)) := by repeat' (with_reducible first | exact Chg.refl _ _ | refine qC ?_)
      exact ⟨xb, X1, X2, q1, q2, rfl, rfl, (((Lx.set (i := 0) (u := .int .i64 n) (v := .int .i64 0) rfl).set (i := 1) (u := .slice X1 xcs.length q1) (v := .slice none 0 0) rfl).set (i := 2) (u := .slice X2 pl.length q2) (v := .slice none 0 0) rfl), (HOW.out.chg hch HX.out).rd, Below.chg hJ hch hJ.size (by simp; omega)⟩
   case rest =>
    obtain ⟨xb, X1, X2, q1, q2, rfl, rfl, Lx, hrx, hbx⟩ := hcut
    obtain ⟨W4, hw4⟩ : ∃ x, wc = x := ⟨_, rfl⟩
    rw [hw4] at Lx hrx hbx ⊢
    clear hw4
    replace hrt := hrt.below hbx
    replace hcode := hcode.below hbx
    replace L := L.below hbx
    replace hB := bl_trans hB hbx
    clear hbx HCO HAV haj hav
    have b0 := (L 0 _ rfl).1
    have b1 := (L 1 _ rfl).1
    have b2 := (L 2 _ rfl).1
    have x0 := (Lx 0 _ rfl).1
    have x1 := (Lx 1 _ rfl).1
    have x2 := (Lx 2 _ rfl).1
    have hn1 : (1 : Int) < (n : Int) := by omega
    have hx40 : xok = decide ((cs.length : Int) < 40) := by rw [HX1.out]; exact decide_eq_decide.2 ⟨fun h => by omega, fun h => by omega⟩
    clear HX1
    go_upto_region 19 with (fail)
    go_cut [137] from 16 to 180 (fun v wx => v = .bool false ∧ Below W4.heap.size W4 wx)
    case first =>
     by_cases h40 : (cs.length : Int) < 40
     ·rw [decide_eq_true h40] at hx40
      subst hx40
      go_wp2_with fail
      go_meet
      case rel => exact ⟨rfl, Below.refl _ _⟩
     ·have hd40 := decide_eq_false h40
      rw [hd40] at hx40
      subst hx40
      go_wp2_with fail
      go_meet
      case rel => exact ⟨rfl, Below.refl _ _⟩
    case rest =>
     obtain ⟨rfl, hcut⟩ := hcut
     obtain ⟨W5, hw5⟩ : ∃ x, wc = x := ⟨_, rfl⟩
     rw [hw5] at hcut ⊢
     clear hw5 hx40 hn1 b0 b1 b2 x0 x1 x2
     replace hrt := hrt.below hcut
     replace hcode := hcode.below hcut
     replace L := L.below hcut
     replace hB := bl_trans hB hcut
     replace Lx := Lx.below hcut
     replace hrx := hrx.below hcut
     clear hcut
     have b0 := (L 0 _ rfl).1
     have b1 := (L 1 _ rfl).1
     have b2 := (L 2 _ rfl).1
     have x0 := (Lx 0 _ rfl).1
     have x1 := (Lx 1 _ rfl).1
     have x2 := (Lx 2 _ rfl).1
     go_upto_if 138 with (fail)
     go_cut [] from 16 to 160 (fun wx => Below W5.heap.size W5 wx)
     case first =>
      cases xok
      ·skip
       go_wp2_with fail
       go_meet
       case rel => exact Below.refl _ _
      ·have hT := HTB.out rfl _ _ _ hrx
       clear HTB
       go_wp2_with fail
       refine hT.mono ?_
       rintro e w20 ⟨y1, y2, S, rfl, ow, fr, hkb⟩
       have hry := ow.rd
       obtain ⟨⟨Y1, yk1, rfl⟩, ⟨Y2, yk2, rfl⟩⟩ := hry.forms
       clear ow fr hT b0 b1 b2 x0 x1 x2
       replace L := L.below hkb
       have b0 := (L 0 _ rfl).1
       have b1 := (L 1 _ rfl).1
       have b2 := (L 2 _ rfl).1
       go_upto_region 23 with (fail)
       have hal : Below w20.heap.size w20 (w20.alloc (.cells #[.int .i64 n, .slice Y1 cs.length yk1, .slice Y2 pl.length yk2] 27)) := (Below.refl _ _).alloc (Nat.le_refl _) _
       have LY : Loc (w20.alloc (.cells #[.int .i64 n, .slice Y1 cs.length yk1, .slice Y2 pl.length yk2] 27)) w20.heap.size [.int .i64 n, .slice Y1 cs.length yk1, .slice Y2 pl.length yk2] := Loc.new w20 #[.int .i64 n, .slice Y1 cs.length yk1, .slice Y2 pl.length yk2] 27
       replace hry := hry.below hal
       replace L := L.below hal
       replace hkb := bl_trans hkb hal
       obtain ⟨gy, hgy⟩ : ∃ g, w20.heap.size = g := ⟨_, rfl⟩
       rw [hgy] at LY
       generalize w20.alloc (.cells #[.int .i64 n, .slice Y1 cs.length yk1, .slice Y2 pl.length yk2] 27) = W6 at *
       (try rw [hgy])
       clear hgy hal
       clear b0 b1 b2
       have b0 := (L 0 _ rfl).1
       have b1 := (L 1 _ rfl).1
       have b2 := (L 2 _ rfl).1
       have y0 := (LY 0 _ rfl).1
       have y1 := (LY 1 _ rfl).1
       have y2 := (LY 2 _ rfl).1
       go_wp2_with fail
       refine (HW.out _ _ _ hry).mono ?_
       rintro e w21 ⟨rfl, hb21⟩
       go_wp2_with fail
       go_meet
       case rel => exact bl_trans hkb hb21
     case rest =>
      obtain ⟨W7, hw7⟩ : ∃ x, wc = x := ⟨_, rfl⟩
      rw [hw7] at hcut ⊢
      clear hw7 b0 b1 b2 x0 x1 x2 Lx hrx HTB
      replace hrt := hrt.below hcut
      replace hcode := hcode.below hcut
      replace L := L.below hcut
      replace hB := bl_trans hB hcut
      clear hcut
      have b0 := (L 0 _ rfl).1
      have b1 := (L 1 _ rfl).1
      have b2 := (L 2 _ rfl).1
      have HTI : Hid (∀ W, RdCompany W (.slice A1 cs.length n1) (.slice A2 pl.length n2) cs pl → Calls Try.prog 19 #[.agg #[.int .i64 n, .slice A1 cs.length n1, .slice A2 pl.length n2]] W (ToCompany n (tidyC n cs pl) pl W)) := fun W hr => implTidy_any n _ _ cs pl W hr HSZ.out
      obtain ⟨t1, t2, t3⟩ := HCT.out
      have HT2 : Hid (∀ v1 v2 W, RdCompany W v1 v2 (tidyC n cs pl) pl → (Calls Try.prog 6 #[.agg #[.int .i64 n, v1, v2]] W fun e w' => e = .returned (.int .i64 wy) ∧ Below W.heap.size W w') ∧ (Calls Try.prog 8 #[.agg #[.int .i64 n, v1, v2]] W fun e w' => e = .returned (.bool true) ∧ Below W.heap.size W w')) := fun v1 v2 W hr => by
       have c1 := implWhyNot_any n v1 v2 _ pl W hr
       have c2 := implCompanyOk_any n v1 v2 _ pl W hr
       rw [t2] at c1
       rw [t1] at c2
       exact ⟨c1, c2⟩
      clear HCT t1 t2
      generalize tidyC (n : Int) cs pl = tcs at *
      have ht3 : (tcs.length : Int) ≤ (cs.length : Int) := by omega
      clear t3
      go_wp2_with fail
      refine (HTI.out _ hrt).mono ?_
      rintro e w30 ⟨y1, y2, S, rfl, ow, fr, hb30⟩
      have hrq := ow.rd
      obtain ⟨⟨Q1, qk1, rfl⟩, ⟨Q2, qk2, rfl⟩⟩ := hrq.forms
      clear b0 b1 b2
      replace hrt := hrt.below hb30
      replace hcode := hcode.below hb30
      replace L := L.below hb30
      replace hB := bl_trans hB hb30
      clear ow fr HTI hb30
      have b0 := (L 0 _ rfl).1
      have b1 := (L 1 _ rfl).1
      have b2 := (L 2 _ rfl).1
      go_upto_region 26 with (fail)
      have hal : Below w30.heap.size w30 (w30.alloc (.cells #[.int .i64 n, .slice Q1 tcs.length qk1, .slice Q2 pl.length qk2] 27)) := (Below.refl _ _).alloc (Nat.le_refl _) _
      have LQ : Loc (w30.alloc (.cells #[.int .i64 n, .slice Q1 tcs.length qk1, .slice Q2 pl.length qk2] 27)) w30.heap.size [.int .i64 n, .slice Q1 tcs.length qk1, .slice Q2 pl.length qk2] := Loc.new w30 #[.int .i64 n, .slice Q1 tcs.length qk1, .slice Q2 pl.length qk2] 27
      replace hrq := hrq.below hal
      replace hrt := hrt.below hal
      replace hcode := hcode.below hal
      replace L := L.below hal
      replace hB := bl_trans hB hal
      obtain ⟨gq, hgq⟩ : ∃ g, w30.heap.size = g := ⟨_, rfl⟩
      rw [hgq] at LQ
      generalize w30.alloc (.cells #[.int .i64 n, .slice Q1 tcs.length qk1, .slice Q2 pl.length qk2] 27) = W8 at *
      (try rw [hgq])
      clear hgq hal
      clear b0 b1 b2
      have b0 := (L 0 _ rfl).1
      have b1 := (L 1 _ rfl).1
      have b2 := (L 2 _ rfl).1
      have c0 := (LQ 0 _ rfl).1
      have c1 := (LQ 1 _ rfl).1
      have c2 := (LQ 2 _ rfl).1
      go_wp2_with fail
      refine (HT2.out _ _ _ hrq).1.mono ?_
      rintro e w31 ⟨rfl, hb31⟩
      clear b0 b1 b2 c0 c1 c2
      replace hrq := hrq.below hb31
      replace LQ := LQ.below hb31
      replace hrt := hrt.below hb31
      replace hcode := hcode.below hb31
      replace L := L.below hb31
      replace hB := bl_trans hB hb31
      clear hb31
      have b0 := (L 0 _ rfl).1
      have b1 := (L 1 _ rfl).1
      have b2 := (L 2 _ rfl).1
      have c0 := (LQ 0 _ rfl).1
      have c1 := (LQ 1 _ rfl).1
      have c2 := (LQ 2 _ rfl).1
      go_wp2_with fail
      refine (HT2.out _ _ _ hrq).2.mono ?_
      rintro e w32 ⟨rfl, hb32⟩
      go_wp2_with fail
      go_ret
      exact ⟨rfl, bl_trans hB hb32⟩
set_option maxRecDepth 100000 in
set_option maxHeartbeats 1000000 in
theorem fnCompanies_lifted (os : Os) (started : os.Started) (H : Type) (enc : TypeId × Value → H) :
  ReturnsInHanded {} Try.checked os 3 .any (Rows.fnCompaniesSpec.pre6 enc Try.prog Try.f3 Rows.fnCompaniesRow.domain false) (Rows.fnCompaniesSpec.post enc Try.prog Try.f3 false true false false) := by
 refine returnsInHanded_of_change (C := Try.checked) tryOwn started (by kernel_rfl) Try.func3
  (ChangeSpec.witness6 (enc := enc) (C := Try.checked) false ⟨#[], #[.slice none 0 0], []⟩ 12 (by kernel_rfl) (by kernel_rfl) (by kernel_rfl) (by kernel_rfl)) ?_
 intro W base args ds gs before hval0 hW hcnd _
 have hval : ∀ (j : Nat) t v, Try.f3.params[j]? = some t → args[j]? = some v → Value.okWide Try.prog W .any base t v := hval0
 have hW' := hW
 obtain ⟨p, q, hA0, hV, rfl, hfz, hnd⟩ := hW
 have hA : DataW.TrodAll enc Try.prog W 0 (fun _ => true) true Try.f3.params.toList args.toList ds p := hA0
 rw [Try.params3] at hA hval
 obtain ⟨v0, vs0, d0, ds0, p0, q0, hargs, rfl, rfl, h0, r0⟩ := trodAll_cons hA
 obtain ⟨rfl, rfl, rfl⟩ := trodAll_nil r0
 obtain rfl : args = #[v0] := by cases args; simp_all
 obtain ⟨rfl, rfl⟩ := trodVars_none hV
 have e0 := h0
 have lt0 : ∀ x ∈ p0, x.block < W.heap.size := by obtain ⟨m, hm⟩ := e0; exact DataW.trod_lt m _ _ _ hm
 have ok0 := hval 0 22 v0 rfl rfl
 clear hA0 hval0 hval
 obtain ⟨xs, hrd, hby⟩ := arg_slice Try.underlying22 ok0 h0 (opens_slice (f := cU8) (size := 1) Try.underlying22 (by kernel_rfl) (by omega) cU8_len (opens_u8 Try.underlying5))
 obtain ⟨A, c, rfl, _⟩ := RdS.form hrd
 refine (lawFnCompanies_any A c xs W hrd hby).mono fun e W' ⟨he, bel⟩ => ?_
 subst he
 exact ⟨_, rfl, _, _, _, [], _, [], hW', trodAll_mk1 (shut_bool Try.underlying4 _), (trodAll_cons_mk (Below.trod tryLaid (by kernel_rfl) (of_decide_eq_true (by kernel_rfl)) e0 bel lt0) trodAll_mk0), rfl, bel.frame _, fun h => by cases h⟩
theorem fnCompanies_holds : Rows.FnCompaniesSaid :=
 OpenClaim.holds_of_wide 3 Try.f3 rfl rfl rfl rfl rfl rfl rfl ⟨rfl, rfl, rfl, rfl, rfl⟩ rfl rfl rfl rfl rfl (by kernel_rfl) Try.func3 (by kernel_rfl)
  (of_decide_eq_true (by kernel_rfl)) (by unfold Func.isWrapper; first | (rw [if_pos (by decide +kernel)]; kernel_rfl) | (rw [if_neg (by decide +kernel)]; exact ⟨rfl, rfl⟩))
  (fun os started H enc _ => fnCompanies_lifted os started H enc)
#print axioms fnCompanies_holds
end Go.Proofs.Ytpfengpbehjbiaa
