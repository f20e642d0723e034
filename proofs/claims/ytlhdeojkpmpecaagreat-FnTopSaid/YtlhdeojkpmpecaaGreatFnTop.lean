/- FnTop: the law returns true for every input. No condition. Written by a program (gen_ft.py). -/
import Derived.Deep.DeepCutAuto
import Derived.OpenShut
import Derived.Test.YtlhdeojkpmpecaaGreatBdW8x3
import Derived.Test.YtlhdeojkpmpecaaGreatBdK17x9
import Derived.Test.YtlhdeojkpmpecaaGreatBdY7x8
import Derived.Test.YtlhdeojkpmpecaaGreatBdW1x3
import Derived.Test.YtlhdeojkpmpecaaGreatO3
namespace Go.Proofs.YtlhdeojkpmpecaaGreat
open Go.ChangeShapes Go.WideShapes Go.ChangeAt Go.RowKit Go.Deep
theorem dM_n {k n : Int} (h : n ≠ 1) : dMoney k n = 0 := if_neg h
theorem dM_o {k : Int} (h1 : k ≠ 1) (h2 : k ≠ 2) (h3 : k ≠ 6) : dMoney k 1 = 0 := by unfold dMoney; rw [if_pos rfl, if_neg h1, if_neg h2, if_neg h3]
set_option maxRecDepth 100000 in
theorem act210ft {a : Act} (h : a.tmps.size = 210) (hd : a.defers = []) : a = ⟨List.toArray (a.tmps.getD 0 undef :: a.tmps.getD 1 undef :: a.tmps.getD 2 undef :: a.tmps.getD 3 undef :: a.tmps.getD 4 undef :: a.tmps.getD 5 undef :: a.tmps.getD 6 undef :: a.tmps.getD 7 undef :: a.tmps.getD 8 undef :: a.tmps.getD 9 undef :: a.tmps.getD 10 undef :: a.tmps.getD 11 undef :: a.tmps.getD 12 undef :: a.tmps.getD 13 undef :: a.tmps.getD 14 undef :: a.tmps.getD 15 undef :: a.tmps.getD 16 undef :: a.tmps.getD 17 undef :: a.tmps.getD 18 undef :: a.tmps.getD 19 undef :: a.tmps.getD 20 undef :: a.tmps.getD 21 undef :: a.tmps.getD 22 undef :: a.tmps.getD 23 undef :: a.tmps.getD 24 undef :: a.tmps.getD 25 undef :: a.tmps.getD 26 undef :: a.tmps.getD 27 undef :: a.tmps.getD 28 undef :: a.tmps.getD 29 undef :: a.tmps.getD 30 undef :: a.tmps.getD 31 undef :: a.tmps.getD 32 undef :: a.tmps.getD 33 undef :: a.tmps.getD 34 undef :: a.tmps.getD 35 undef :: a.tmps.getD 36 undef :: a.tmps.getD 37 undef :: a.tmps.getD 38 undef :: a.tmps.getD 39 undef :: a.tmps.getD 40 undef :: a.tmps.getD 41 undef :: a.tmps.getD 42 undef :: a.tmps.getD 43 undef :: a.tmps.getD 44 undef :: a.tmps.getD 45 undef :: a.tmps.getD 46 undef :: a.tmps.getD 47 undef :: a.tmps.getD 48 undef :: a.tmps.getD 49 undef :: a.tmps.getD 50 undef :: a.tmps.getD 51 undef :: a.tmps.getD 52 undef :: a.tmps.getD 53 undef :: a.tmps.getD 54 undef :: a.tmps.getD 55 undef :: a.tmps.getD 56 undef :: a.tmps.getD 57 undef :: a.tmps.getD 58 undef :: a.tmps.getD 59 undef :: a.tmps.getD 60 undef :: a.tmps.getD 61 undef :: a.tmps.getD 62 undef :: a.tmps.getD 63 undef :: a.tmps.getD 64 undef :: a.tmps.getD 65 undef :: a.tmps.getD 66 undef :: a.tmps.getD 67 undef :: a.tmps.getD 68 undef :: a.tmps.getD 69 undef :: a.tmps.getD 70 undef :: a.tmps.getD 71 undef :: a.tmps.getD 72 undef :: a.tmps.getD 73 undef :: a.tmps.getD 74 undef :: a.tmps.getD 75 undef :: a.tmps.getD 76 undef :: a.tmps.getD 77 undef :: a.tmps.getD 78 undef :: a.tmps.getD 79 undef :: a.tmps.getD 80 undef :: a.tmps.getD 81 undef :: a.tmps.getD 82 undef :: a.tmps.getD 83 undef :: a.tmps.getD 84 undef :: a.tmps.getD 85 undef :: a.tmps.getD 86 undef :: a.tmps.getD 87 undef :: a.tmps.getD 88 undef :: a.tmps.getD 89 undef :: a.tmps.getD 90 undef :: a.tmps.getD 91 undef :: a.tmps.getD 92 undef :: a.tmps.getD 93 undef :: a.tmps.getD 94 undef :: a.tmps.getD 95 undef :: a.tmps.getD 96 undef :: a.tmps.getD 97 undef :: a.tmps.getD 98 undef :: a.tmps.getD 99 undef :: a.tmps.getD 100 undef :: a.tmps.getD 101 undef :: a.tmps.getD 102 undef :: a.tmps.getD 103 undef :: a.tmps.getD 104 undef :: a.tmps.getD 105 undef :: a.tmps.getD 106 undef :: a.tmps.getD 107 undef :: a.tmps.getD 108 undef :: a.tmps.getD 109 undef :: a.tmps.getD 110 undef :: a.tmps.getD 111 undef :: a.tmps.getD 112 undef :: a.tmps.getD 113 undef :: a.tmps.getD 114 undef :: a.tmps.getD 115 undef :: a.tmps.getD 116 undef :: a.tmps.getD 117 undef :: a.tmps.getD 118 undef :: a.tmps.getD 119 undef :: a.tmps.getD 120 undef :: a.tmps.getD 121 undef :: a.tmps.getD 122 undef :: a.tmps.getD 123 undef :: a.tmps.getD 124 undef :: a.tmps.getD 125 undef :: a.tmps.getD 126 undef :: a.tmps.getD 127 undef :: a.tmps.getD 128 undef :: a.tmps.getD 129 undef :: a.tmps.getD 130 undef :: a.tmps.getD 131 undef :: a.tmps.getD 132 undef :: a.tmps.getD 133 undef :: a.tmps.getD 134 undef :: a.tmps.getD 135 undef :: a.tmps.getD 136 undef :: a.tmps.getD 137 undef :: a.tmps.getD 138 undef :: a.tmps.getD 139 undef :: a.tmps.getD 140 undef :: a.tmps.getD 141 undef :: a.tmps.getD 142 undef :: a.tmps.getD 143 undef :: a.tmps.getD 144 undef :: a.tmps.getD 145 undef :: a.tmps.getD 146 undef :: a.tmps.getD 147 undef :: a.tmps.getD 148 undef :: a.tmps.getD 149 undef :: a.tmps.getD 150 undef :: a.tmps.getD 151 undef :: a.tmps.getD 152 undef :: a.tmps.getD 153 undef :: a.tmps.getD 154 undef :: a.tmps.getD 155 undef :: a.tmps.getD 156 undef :: a.tmps.getD 157 undef :: a.tmps.getD 158 undef :: a.tmps.getD 159 undef :: a.tmps.getD 160 undef :: a.tmps.getD 161 undef :: a.tmps.getD 162 undef :: a.tmps.getD 163 undef :: a.tmps.getD 164 undef :: a.tmps.getD 165 undef :: a.tmps.getD 166 undef :: a.tmps.getD 167 undef :: a.tmps.getD 168 undef :: a.tmps.getD 169 undef :: a.tmps.getD 170 undef :: a.tmps.getD 171 undef :: a.tmps.getD 172 undef :: a.tmps.getD 173 undef :: a.tmps.getD 174 undef :: a.tmps.getD 175 undef :: a.tmps.getD 176 undef :: a.tmps.getD 177 undef :: a.tmps.getD 178 undef :: a.tmps.getD 179 undef :: a.tmps.getD 180 undef :: a.tmps.getD 181 undef :: a.tmps.getD 182 undef :: a.tmps.getD 183 undef :: a.tmps.getD 184 undef :: a.tmps.getD 185 undef :: a.tmps.getD 186 undef :: a.tmps.getD 187 undef :: a.tmps.getD 188 undef :: a.tmps.getD 189 undef :: a.tmps.getD 190 undef :: a.tmps.getD 191 undef :: a.tmps.getD 192 undef :: a.tmps.getD 193 undef :: a.tmps.getD 194 undef :: a.tmps.getD 195 undef :: a.tmps.getD 196 undef :: a.tmps.getD 197 undef :: a.tmps.getD 198 undef :: a.tmps.getD 199 undef :: a.tmps.getD 200 undef :: a.tmps.getD 201 undef :: a.tmps.getD 202 undef :: a.tmps.getD 203 undef :: a.tmps.getD 204 undef :: a.tmps.getD 205 undef :: a.tmps.getD 206 undef :: a.tmps.getD 207 undef :: a.tmps.getD 208 undef :: a.tmps.getD 209 undef :: []), []⟩ := act_eq 210 h hd
def pft (n m wy : Int) (g1 : Nat) (A1 A2 A3 : Option Addr) (csl pll dsl n1 n2 n3 : Nat) (i : Nat) (v : Value) (_ : Nat → Nat) (_ : World) : Prop :=
  match i with
  | 0 => v = .agg #[.int .i64 n, .slice A1 csl n1, .slice A2 pll n2, .slice A3 dsl n3, .int .i64 m]
  | 1 => v = .bool true
  | 2 => v = .bool true
  | 3 => v = .pointer (some ⟨g1, 0, none⟩)
  | 4 => v = .agg #[.int .i64 n, .slice A1 csl n1, .slice A2 pll n2]
  | 5 => v = .int .i64 wy
  | 6 => v = .pointer (some ⟨g1, 0, none⟩)
  | 7 => v = .agg #[.int .i64 n, .slice A1 csl n1, .slice A2 pll n2]
  | 8 => v = .int .i64 wy
  | 9 => v = .bool true
  | 10 => v = .bool true
  | _ => True
set_option maxHeartbeats 8000000 in
set_option maxRecDepth 100000 in
theorem lawFnTop_any (A : Option Addr) (c : Nat) (bs : List Int) (w : World) (h : RdL cU8 1 w (.slice A bs.length c) bs) (hby : ∀ x ∈ bs, 0 ≤ x ∧ x ≤ 255) :
    Calls Tryz.prog 9 #[.slice A bs.length c] w fun e w' => e = .returned (.bool true) ∧ Below w.heap.size w w' := by
  have Hby := Lib.hid hby
  clear hby
  have HT : Hid (∀ (n m : Int) (v1 v2 v3 : Value) (cs : List RCross) (pl : List RPl) (ds : List Int) (W : World), RdTheatre W v1 v2 v3 cs pl ds → theatreB n m cs pl ds = true →
      Calls Tryz.prog 36 #[.agg #[.int .i64 n, v1, v2, v3, .int .i64 m]] W fun e w' => e = .returned (.bool true) ∧ Below W.heap.size W w') := by
    intro n m v1 v2 v3 cs pl ds W hr ht
    have := implTheatreOk_any n m v1 v2 v3 cs pl ds W hr
    rw [ht] at this
    exact this
  have HS : Hid (∀ (v v' : Value) (l l' : List Int) (W : World), RdL cInt 1 W v l → RdL cInt 1 W v' l' → l = l' →
      Calls Tryz.prog 51 #[v, v'] W fun e w' => e = .returned (.bool true) ∧ Below W.heap.size W w') := by
    intro v v' l l' W h1 h2 he
    have := sameInts_any v v' l l' W h1 h2
    rw [decide_eq_true he] at this
    exact this
  have HK : Hid (∀ (v : Value) (l : List Int) (W : World), RdL cInt 1 W v l → keepsB l 5 = true →
      Calls Tryz.prog 53 #[v, .int .i64 5] W fun e w' => e = .returned (.bool true) ∧ Below W.heap.size W w') := by
    intro v l W h1 h2
    have := implKeepsRest_any v l 5 W h1
    rw [h2] at this
    exact this
  go_enter Tryz.func9, Tryz.ntmps9
  go_wp2_with (go_at_call 30; refine twoB (big_any _ _ _ _) (fun wb hc hb => ?_) (fun wb hc hb => ?_))
  · go_ret
    exact ⟨rfl, hb⟩
  have hlen : bs.length ≤ 1048576 := by have := hc.out; simp at this; omega
  clear hc
  refine (drawActs_any A c bs wb (h.below hb) Hby.out hlen).mono ?_
  rintro e w1 ⟨n, m, cs, pl, ds, x1, x2, x3, va, acts, rfl, hrt, hra, hth, h13, hacts, hb1⟩
  obtain ⟨⟨A1, n1, rfl⟩, ⟨A2, n2, rfl⟩, ⟨A3, n3, rfl⟩⟩ := hrt.forms
  obtain ⟨A5, n5, rfl, _, _⟩ := hra.form
  have hbw : Below w.heap.size w w1 := bl_trans hb hb1
  have Hok : Hid (theatreB n m cs pl ds = true) := hth
  clear hth hacts hb hb1 h hlen
  go_upto_region 4 with (fail)
  have hB : Below w1.heap.size w1 w1 := Below.refl _ _
  have hal : Below w1.heap.size w1 (w1.alloc (.cells #[.int .i64 n, .slice A1 cs.length n1, .slice A2 pl.length n2, .slice A3 ds.length n3, .int .i64 m] 37)) := (Below.refl _ _).alloc (Nat.le_refl _) _
  have L : Loc (w1.alloc (.cells #[.int .i64 n, .slice A1 cs.length n1, .slice A2 pl.length n2, .slice A3 ds.length n3, .int .i64 m] 37)) w1.heap.size [.int .i64 n, .slice A1 cs.length n1, .slice A2 pl.length n2, .slice A3 ds.length n3, .int .i64 m] := Loc.new w1 #[.int .i64 n, .slice A1 cs.length n1, .slice A2 pl.length n2, .slice A3 ds.length n3, .int .i64 m] 37
  replace hrt := hrt.below hal
  replace hB := hB.trans (hal.mono hB.size)
  obtain ⟨g1, hg1⟩ : ∃ g, w1.heap.size = g := ⟨_, rfl⟩
  rw [hg1] at L
  generalize w1.alloc (.cells #[.int .i64 n, .slice A1 cs.length n1, .slice A2 pl.length n2, .slice A3 ds.length n3, .int .i64 m] 37) = W1 at *
  (try rw [hg1])
  have hgl : w1.heap.size ≤ g1 := by omega
  have hgu : g1 ≤ w1.heap.size := by omega
  clear hg1 hal
  have b0 := (L 0 _ rfl).1
  have b1 := (L 1 _ rfl).1
  have b2 := (L 2 _ rfl).1
  have b3 := (L 3 _ rfl).1
  have b4 := (L 4 _ rfl).1
  go_wp2_with fail
  go_loopw [5, 6] (fun mo i wr => ∃ (k : Nat) (n m : Int) (cs : List RCross) (pl : List RPl) (ds : List Int) (A1 A2 A3 : Option Addr) (n1 n2 n3 : Nat), k ≤ acts.length ∧ i = .int .i64 k ∧ mo = .int .i64 m ∧ Hid (theatreB n m cs pl ds = true) ∧ RdTheatre wr (.slice A1 cs.length n1) (.slice A2 pl.length n2) (.slice A3 ds.length n3) cs pl ds ∧ Loc wr g1 [.int .i64 n, .slice A1 cs.length n1, .slice A2 pl.length n2, .slice A3 ds.length n3, .int .i64 m] ∧ Below w1.heap.size w1 wr) (fun _ i _ => acts.length - (intOf i).toNat)
  case atStart => exact ⟨0, n, m, cs, pl, ds, A1, A2, A3, n1, n2, n3, Nat.zero_le _, rfl, rfl, Hok, hrt, L, hB⟩
  case round =>
    clear L hrt hB Hok b0 b1 b2 b3 b4
    obtain ⟨k, n, m, cs, pl, ds, A1, A2, A3, n1, n2, n3, hk, rfl, rfl, Hok, hrt, L, hB⟩ := hrel
    have hzB := hB.size
    by_cases hlt : k < acts.length
    · skip
      obtain ⟨g, off, rfl, hg, hcell⟩ := (hra.below hB).cell cAct_len (by omega) hlt
      have q0 := hcell 0 _ rfl
      have q1 := hcell 1 _ rfl
      have q2 := hcell 2 _ rfl
      simp only [Nat.add_zero] at q0 q1 q2
      clear hcell
      obtain ⟨⟨ka, aa, ba⟩, hact⟩ : ∃ a, acts[k] = a := ⟨_, rfl⟩
      rw [hact] at q0 q1 q2
      clear hact
      have hm := (ok_parts (t := ⟨n, m, cs, pl, ds⟩) Hok.out).2.2
      have hm0 : 0 ≤ m := hm.1
      have hm1 : m ≤ 1000000 := hm.2
      clear hm
      have hszt := theatreB_sz Hok.out
      have HI : Hid (∀ W, RdTheatre W (.slice A1 cs.length n1) (.slice A2 pl.length n2) (.slice A3 ds.length n3) cs pl ds → Calls Tryz.prog 14 #[.agg #[.int .i64 n, .slice A1 cs.length n1, .slice A2 pl.length n2, .slice A3 ds.length n3, .int .i64 m], .agg #[.int .i64 ka, .int .i64 aa, .int .i64 ba]] W (RetDo W.heap.size (doF ⟨n, m, cs, pl, ds⟩ (ka, aa, ba)) W)) := fun W hr => implDoAct_any n m ka aa ba _ _ _ cs pl ds W hr (by omega)
      have HE : Hid (∀ W, RdTheatre W (.slice A1 cs.length n1) (.slice A2 pl.length n2) (.slice A3 ds.length n3) cs pl ds → Calls Tryz.prog 11 #[.agg #[.int .i64 n, .slice A1 cs.length n1, .slice A2 pl.length n2, .slice A3 ds.length n3, .int .i64 m], .agg #[.int .i64 ka, .int .i64 aa, .int .i64 ba]] W (RetDo W.heap.size (doF ⟨n, m, cs, pl, ds⟩ (ka, aa, ba)) W)) := fun W hr => specDoAct_any n m ka aa ba _ _ _ cs pl ds W hr (by omega)
      have HWY : Hid (∀ W, RdCompany W (.slice A1 cs.length n1) (.slice A2 pl.length n2) cs pl → Calls Tryz.prog 33 #[.agg #[.int .i64 n, .slice A1 cs.length n1, .slice A2 pl.length n2]] W fun e w' => e = .returned (.int .i64 (whyF n cs pl)) ∧ Below W.heap.size W w') := fun W hr => specWhyNot_any n _ _ cs pl W hr
      have P1 := do_ok (t := ⟨n, m, cs, pl, ds⟩) Hok.out (ka, aa, ba)
      have P2 := do_money (t := ⟨n, m, cs, pl, ds⟩) Hok.out (ka, aa, ba)
      have P3 := fun h1 h2 => do_show (t := ⟨n, m, cs, pl, ds⟩) (a := (ka, aa, ba)) h1 h2
      have P4 := fun h1 => do_days ⟨n, m, cs, pl, ds⟩ (a := (ka, aa, ba)) h1
      have P5 := fun h1 h2 => do_order (t := ⟨n, m, cs, pl, ds⟩) Hok.out (a := (ka, aa, ba)) h1 h2
      generalize doF ⟨n, m, cs, pl, ds⟩ (ka, aa, ba) = r at *
      obtain ⟨⟨rn, rm, rcs, rpl, rds⟩, rk⟩ := r
      dsimp only at P2 P3 P4 P5
      generalize whyF n cs pl = wy at *
      have H1 : Hid (theatreB rn rm rcs rpl rds = true) := P1
      have hrl : rcs.length ≤ 40 := (crosses_len (company_n (ok_parts (t := ⟨rn, rm, rcs, rpl, rds⟩) P1).1).1).2.1
      have H2 := Lib.hid P2
      have H3 := Lib.hid P3
      have H4 := Lib.hid P4
      have H5 := Lib.hid P5
      clear P1 P2 P3 P4 P5 hszt
      have b0 := (L 0 _ rfl).1
      have b1 := (L 1 _ rfl).1
      have b2 := (L 2 _ rfl).1
      have b3 := (L 3 _ rfl).1
      have b4 := (L 4 _ rfl).1
      go_upto_region 9 with (fail)
      have hal : Below wr.heap.size wr (wr.alloc (.cells #[.int .i64 ka, .int .i64 aa, .int .i64 ba] 41)) := (Below.refl _ _).alloc (Nat.le_refl _) _
      have LA : Loc (wr.alloc (.cells #[.int .i64 ka, .int .i64 aa, .int .i64 ba] 41)) wr.heap.size [.int .i64 ka, .int .i64 aa, .int .i64 ba] := Loc.new wr #[.int .i64 ka, .int .i64 aa, .int .i64 ba] 41
      replace hrt := hrt.below hal
      replace L := L.below hal
      replace hB := hB.trans (hal.mono hB.size)
      obtain ⟨ga, hga⟩ : ∃ g, wr.heap.size = g := ⟨_, rfl⟩
      rw [hga] at LA
      generalize wr.alloc (.cells #[.int .i64 ka, .int .i64 aa, .int .i64 ba] 41) = W2 at *
      (try rw [hga])
      clear hga hal q0 q1 q2 b0 b1 b2 b3 b4
      have b0 := (L 0 _ rfl).1
      have b1 := (L 1 _ rfl).1
      have b2 := (L 2 _ rfl).1
      have b3 := (L 3 _ rfl).1
      have b4 := (L 4 _ rfl).1
      go_wp2_with fail
      refine (HWY.out W2 hrt.1).mono ?_
      rintro e w3 ⟨rfl, hb3⟩
      clear b0 b1 b2 b3 b4
      replace hrt := hrt.below hb3
      replace L := L.below hb3
      replace LA := LA.below hb3
      replace hB := hB.trans (hb3.mono hB.size)
      clear hb3 HWY
      have b0 := (L 0 _ rfl).1
      have b1 := (L 1 _ rfl).1
      have b2 := (L 2 _ rfl).1
      have b3 := (L 3 _ rfl).1
      have b4 := (L 4 _ rfl).1
      have a0 := (LA 0 _ rfl).1
      have a1 := (LA 1 _ rfl).1
      have a2 := (LA 2 _ rfl).1
      go_wp2_with fail
      refine (HI.out w3 hrt).mono ?_
      rintro e w4 ⟨y1, y2, y3, S, rfl, ow, fr, hb4⟩
      have hrn := ow.rd
      obtain ⟨⟨B1, k1, rfl⟩, ⟨B2, k2, rfl⟩, ⟨B3, k3, rfl⟩⟩ := hrn.forms
      clear b0 b1 b2 b3 b4 a0 a1 a2
      clear ow fr HI
      replace hrt := hrt.below hb4
      replace L := L.below hb4
      replace LA := LA.below hb4
      replace hB := hB.trans (hb4.mono hB.size)
      clear hb4
      go_upto_region 11 with (fail)
      have hal : Below w4.heap.size w4 (w4.alloc (.cells #[.int .i64 rn, .slice B1 rcs.length k1, .slice B2 rpl.length k2, .slice B3 rds.length k3, .int .i64 rm] 37)) := (Below.refl _ _).alloc (Nat.le_refl _) _
      have LN : Loc (w4.alloc (.cells #[.int .i64 rn, .slice B1 rcs.length k1, .slice B2 rpl.length k2, .slice B3 rds.length k3, .int .i64 rm] 37)) w4.heap.size [.int .i64 rn, .slice B1 rcs.length k1, .slice B2 rpl.length k2, .slice B3 rds.length k3, .int .i64 rm] := Loc.new w4 #[.int .i64 rn, .slice B1 rcs.length k1, .slice B2 rpl.length k2, .slice B3 rds.length k3, .int .i64 rm] 37
      replace hrt := hrt.below hal
      replace hrn := hrn.below hal
      replace L := L.below hal
      replace LA := LA.below hal
      replace hB := hB.trans (hal.mono hB.size)
      obtain ⟨gn, hgn⟩ : ∃ g, w4.heap.size = g := ⟨_, rfl⟩
      rw [hgn] at LN
      generalize w4.alloc (.cells #[.int .i64 rn, .slice B1 rcs.length k1, .slice B2 rpl.length k2, .slice B3 rds.length k3, .int .i64 rm] 37) = W5 at *
      (try rw [hgn])
      clear hgn hal
      have b0 := (L 0 _ rfl).1
      have b1 := (L 1 _ rfl).1
      have b2 := (L 2 _ rfl).1
      have b3 := (L 3 _ rfl).1
      have b4 := (L 4 _ rfl).1
      have a0 := (LA 0 _ rfl).1
      have a1 := (LA 1 _ rfl).1
      have a2 := (LA 2 _ rfl).1
      have hzg : g1 < W5.heap.size := World.block_lt_of_cell? W5 _ (L 0 _ rfl).1
      go_wp2_with fail
      refine (HE.out W5 hrt).mono ?_
      rintro e w6 ⟨z1, z2, z3, S, rfl, ow, fr, hb6⟩
      have hgS : ∀ b ∈ S, b ≠ g1 := fun b hb => by have := (fr.2 b hb).1; omega
      have HGS := Lib.hid hgS
      obtain ⟨⟨D1, l1, rfl⟩, ⟨D2, l2, rfl⟩, ⟨D3, l3, rfl⟩⟩ := ow.rd.forms
      clear b0 b1 b2 b3 b4 a0 a1 a2
      clear fr HE hgS
      replace hrt := hrt.below hb6
      replace hrn := hrn.below hb6
      replace L := L.below hb6
      replace LA := LA.below hb6
      replace LN := LN.below hb6
      replace hB := hB.trans (hb6.mono hB.size)
      clear hb6
      go_upto_region 12 with (fail)
      have hal : Below w6.heap.size w6 (w6.alloc (.cells #[.int .i64 rn, .slice D1 rcs.length l1, .slice D2 rpl.length l2, .slice D3 rds.length l3, .int .i64 rm] 37)) := (Below.refl _ _).alloc (Nat.le_refl _) _
      have LW : Loc (w6.alloc (.cells #[.int .i64 rn, .slice D1 rcs.length l1, .slice D2 rpl.length l2, .slice D3 rds.length l3, .int .i64 rm] 37)) w6.heap.size [.int .i64 rn, .slice D1 rcs.length l1, .slice D2 rpl.length l2, .slice D3 rds.length l3, .int .i64 rm] := Loc.new w6 #[.int .i64 rn, .slice D1 rcs.length l1, .slice D2 rpl.length l2, .slice D3 rds.length l3, .int .i64 rm] 37
      replace hrt := hrt.below hal
      replace hrn := hrn.below hal
      replace ow := ow.below hal
      replace L := L.below hal
      replace LA := LA.below hal
      replace LN := LN.below hal
      replace hB := hB.trans (hal.mono hB.size)
      obtain ⟨gw, hgw⟩ : ∃ g, w6.heap.size = g := ⟨_, rfl⟩
      rw [hgw] at LW
      generalize w6.alloc (.cells #[.int .i64 rn, .slice D1 rcs.length l1, .slice D2 rpl.length l2, .slice D3 rds.length l3, .int .i64 rm] 37) = W7 at *
      (try rw [hgw])
      clear hgw hal
      have c0 := (LN 0 _ rfl).1
      have c1 := (LN 1 _ rfl).1
      have c2 := (LN 2 _ rfl).1
      have c3 := (LN 3 _ rfl).1
      have c4 := (LN 4 _ rfl).1
      have d0 := (LW 0 _ rfl).1
      have d1 := (LW 1 _ rfl).1
      have d2 := (LW 2 _ rfl).1
      have d3 := (LW 3 _ rfl).1
      have d4 := (LW 4 _ rfl).1
      go_wp2_with fail
      refine (HT.out rn rm _ _ _ rcs rpl rds W7 hrn H1.out).mono ?_
      rintro e w8 ⟨rfl, hb8⟩
      clear c0 c1 c2 c3 c4 d0 d1 d2 d3 d4
      replace hrt := hrt.below hb8
      replace hrn := hrn.below hb8
      replace ow := ow.below hb8
      replace L := L.below hb8
      replace LA := LA.below hb8
      replace LN := LN.below hb8
      replace hB := hB.trans (hb8.mono hB.size)
      replace LW := LW.below hb8
      clear hb8
      have c0 := (LN 0 _ rfl).1
      have c1 := (LN 1 _ rfl).1
      have c2 := (LN 2 _ rfl).1
      have c3 := (LN 3 _ rfl).1
      have c4 := (LN 4 _ rfl).1
      have d0 := (LW 0 _ rfl).1
      have d1 := (LW 1 _ rfl).1
      have d2 := (LW 2 _ rfl).1
      have d3 := (LW 3 _ rfl).1
      have d4 := (LW 4 _ rfl).1
      go_wp2_with fail
      refine (HS.out _ _ rds rds w8 hrn.2 ow.rd.2 rfl).mono ?_
      rintro e w9 ⟨rfl, hb9⟩
      clear c0 c1 c2 c3 c4 d0 d1 d2 d3 d4
      replace hrt := hrt.below hb9
      replace hrn := hrn.below hb9
      replace ow := ow.below hb9
      replace L := L.below hb9
      replace LA := LA.below hb9
      replace LN := LN.below hb9
      replace hB := hB.trans (hb9.mono hB.size)
      replace LW := LW.below hb9
      clear hb9
      have c0 := (LN 0 _ rfl).1
      have c1 := (LN 1 _ rfl).1
      have c2 := (LN 2 _ rfl).1
      have c3 := (LN 3 _ rfl).1
      have c4 := (LN 4 _ rfl).1
      have d0 := (LW 0 _ rfl).1
      have d1 := (LW 1 _ rfl).1
      have d2 := (LW 2 _ rfl).1
      have d3 := (LW 3 _ rfl).1
      have d4 := (LW 4 _ rfl).1
      go_wp2_with fail
      go_loopw [13] (fun q wi => ∃ j : Nat, j ≤ rcs.length ∧ q = .int .i64 j ∧ Below w9.heap.size w9 wi) (fun q _ => rcs.length - (intOf q).toNat)
      case atStart => exact ⟨0, Nat.zero_le _, rfl, Below.refl _ _⟩
      case round =>
        obtain ⟨j, hj, rfl, hbi⟩ := hrel
        clear c0 c1 c2 c3 c4 d0 d1 d2 d3 d4
        replace hrt := hrt.below hbi
        replace hrn := hrn.below hbi
        replace ow := ow.below hbi
        replace L := L.below hbi
        replace LA := LA.below hbi
        replace LN := LN.below hbi
        replace hB := hB.trans (hbi.mono hB.size)
        replace LW := LW.below hbi
        have hzI := hB.size
        have c0 := (LN 0 _ rfl).1
        have c1 := (LN 1 _ rfl).1
        have c2 := (LN 2 _ rfl).1
        have c3 := (LN 3 _ rfl).1
        have c4 := (LN 4 _ rfl).1
        have d0 := (LW 0 _ rfl).1
        have d1 := (LW 1 _ rfl).1
        have d2 := (LW 2 _ rfl).1
        have d3 := (LW 3 _ rfl).1
        have d4 := (LW 4 _ rfl).1
        by_cases hltj : j < rcs.length
        · skip
          obtain ⟨p, po, rfl, _, hp⟩ := hrn.1.1.cell cCross_len (by omega) hltj
          have p0 := hp 0 _ rfl
          have p1 := hp 1 _ rfl
          obtain ⟨s, so, rfl, _, hs⟩ := ow.rd.1.1.cell cCross_len (by omega) hltj
          have s0 := hs 0 _ rfl
          have s1 := hs 1 _ rfl
          simp only [Nat.add_zero] at p0 p1 s0 s1
          clear hp hs
          have i0 : (0 : Int) ≤ (j : Int) := by omega
          have i1 : ¬ (j : Int) < 0 := by omega
          have i2 : (j : Int) < (rcs.length : Int) := by omega
          generalize rcs[j].1 = u at *
          generalize rcs[j].2 = v at *
          go_wp2_with fail
          go_quiet (fail)
          rename_i nq
          go_wp2_with fail
          go_roundw
          case rel => exact ⟨j + 1, by omega, by go_num, below_drewN hbi _⟩
          case measure => simp [intOf]; omega
        · skip
          obtain rfl : j = rcs.length := by omega
          clear hbi hltj
          have b0 := (L 0 _ rfl).1
          have b1 := (L 1 _ rfl).1
          have b2 := (L 2 _ rfl).1
          have b3 := (L 3 _ rfl).1
          have b4 := (L 4 _ rfl).1
          have a0 := (LA 0 _ rfl).1
          have a1 := (LA 1 _ rfl).1
          have a2 := (LA 2 _ rfl).1
          go_upto_region 19 with (fail)
          clear d0 d1 d2 d3 d4
          obtain ⟨wq, hwq⟩ : ∃ x, wr = x := ⟨_, rfl⟩
          rw [hwq] at hrt hrn ow L LA LN hB LW b0 b1 b2 b3 b4 a0 a1 a2 c0 c1 c2 c3 c4 ⊢
          clear hwq
          have HKP := Lib.hid (ok_parts (t := ⟨rn, rm, rcs, rpl, rds⟩) H1.out).2.1
          by_cases h1 : rk = 1
          · subst h1
            by_cases hk1 : ka = 1
            · subst hk1
              have HME : Hid (rm = m - 10) := by have := H2.out; rw [show dMoney 1 1 = -10 from rfl] at this; exact this.trans ((Int.sub_eq_add_neg (a := m) (b := 10)).symm)
              have hmn : (rm != m - 10) = false := by rw [bne_eq_false_iff_eq]; exact HME.out
              clear H2
              have HD := Lib.hid (H4.out (by decide))
              go_wp2_with fail
              refine (HS.out _ _ rds ds wq hrn.2 hrt.2 HD.out).mono ?_
              rintro e wd ⟨rfl, hbd⟩
              clear a0 a1 a2 b0 b1 b2 b3 b4 c0 c1 c2 c3 c4
              replace hrt := hrt.below hbd
              replace hrn := hrn.below hbd
              replace ow := ow.below hbd
              replace L := L.below hbd
              replace LA := LA.below hbd
              replace LN := LN.below hbd
              replace LW := LW.below hbd
              replace hB := hB.trans (hbd.mono hB.size)
              clear hbd
              have a0 := (LA 0 _ rfl).1
              have a1 := (LA 1 _ rfl).1
              have a2 := (LA 2 _ rfl).1
              have c0 := (LN 0 _ rfl).1
              have c1 := (LN 1 _ rfl).1
              have c2 := (LN 2 _ rfl).1
              have c3 := (LN 3 _ rfl).1
              have c4 := (LN 4 _ rfl).1
              go_wp2_with fail
              refine (HK.out _ rds wd hrn.2 HKP.out).mono ?_
              rintro e wk ⟨rfl, hbk⟩
              clear c0 c1 c2 c3 c4
              replace hrt := hrt.below hbk
              replace hrn := hrn.below hbk
              replace ow := ow.below hbk
              replace L := L.below hbk
              replace LW := LW.below hbk
              replace hB := hB.trans (hbk.mono hB.size)
              clear hbk hrt hrn LN LA
              have d0 := (LW 0 _ rfl).1
              have d1 := (LW 1 _ rfl).1
              have d2 := (LW 2 _ rfl).1
              have d3 := (LW 3 _ rfl).1
              have d4 := (LW 4 _ rfl).1
              have b0 := (L 0 _ rfl).1
              have b1 := (L 1 _ rfl).1
              have b2 := (L 2 _ rfl).1
              have b3 := (L 3 _ rfl).1
              have b4 := (L 4 _ rfl).1
              have f0 := (L 0 _ rfl).2
              have f1 := (L 1 _ rfl).2
              have f2 := (L 2 _ rfl).2
              have f3 := (L 3 _ rfl).2
              have f4 := (L 4 _ rfl).2
              have hch : Chg [g1] wk (((((wk.setCell ⟨g1, 0, none⟩ (.int .i64 rn)).setCell ⟨g1, 1, none⟩ (.slice D1 rcs.length l1)).setCell ⟨g1, 2, none⟩ (.slice D2 rpl.length l2)).setCell ⟨g1, 3, none⟩ (.slice D3 rds.length l3)).setCell ⟨g1, 4, none⟩ (.int .i64 rm)) := by repeat' (with_reducible first | exact Chg.refl _ _ | refine qC ?_)
              have hB2 : Below w1.heap.size w1 (((((wk.setCell ⟨g1, 0, none⟩ (.int .i64 rn)).setCell ⟨g1, 1, none⟩ (.slice D1 rcs.length l1)).setCell ⟨g1, 2, none⟩ (.slice D2 rpl.length l2)).setCell ⟨g1, 3, none⟩ (.slice D3 rds.length l3)).setCell ⟨g1, 4, none⟩ (.int .i64 rm)) := Below.chg hB hch hB.size (by simp; omega)
              have hr2 := (ow.chg hch (fun x hx hx' => HGS.out x hx (by simpa using hx'))).rd
              have L2 := (((((L.set (i := 0) (u := .int .i64 rn) (v := .int .i64 n) rfl).set (i := 1) (u := .slice D1 rcs.length l1) (v := .slice A1 cs.length n1) rfl).set (i := 2) (u := .slice D2 rpl.length l2) (v := .slice A2 pl.length n2) rfl).set (i := 3) (u := .slice D3 rds.length l3) (v := .slice A3 ds.length n3) rfl).set (i := 4) (u := .int .i64 rm) (v := .int .i64 m) rfl)
              have HB2 := Lib.hid hB2
              have HR2 := Lib.hid hr2
              have HL2 := Lib.hid L2
              clear hch hB2 hr2 L2 ow
              go_wp2_with fail
              go_roundw
              case rel => exact ⟨k + 1, rn, rm, rcs, rpl, rds, D1, D2, D3, l1, l2, l3, hlt, by go_num, int_eq HME.out.symm, H1, HR2.out, HL2.out, HB2.out⟩
              case measure => simp [intOf]; omega
            · skip
              by_cases hk2 : ka = 2
              · subst hk2
                have HME : Hid (rm = m - 4) := by have := H2.out; rw [show dMoney 2 1 = -4 from rfl] at this; exact this.trans ((Int.sub_eq_add_neg (a := m) (b := 4)).symm)
                have hmn : (rm != m - 4) = false := by rw [bne_eq_false_iff_eq]; exact HME.out
                clear H2
                have HD := Lib.hid (H4.out (by decide))
                go_wp2_with fail
                refine (HS.out _ _ rds ds wq hrn.2 hrt.2 HD.out).mono ?_
                rintro e wd ⟨rfl, hbd⟩
                clear a0 a1 a2 b0 b1 b2 b3 b4 c0 c1 c2 c3 c4
                replace hrt := hrt.below hbd
                replace hrn := hrn.below hbd
                replace ow := ow.below hbd
                replace L := L.below hbd
                replace LA := LA.below hbd
                replace LN := LN.below hbd
                replace LW := LW.below hbd
                replace hB := hB.trans (hbd.mono hB.size)
                clear hbd
                have a0 := (LA 0 _ rfl).1
                have a1 := (LA 1 _ rfl).1
                have a2 := (LA 2 _ rfl).1
                have c0 := (LN 0 _ rfl).1
                have c1 := (LN 1 _ rfl).1
                have c2 := (LN 2 _ rfl).1
                have c3 := (LN 3 _ rfl).1
                have c4 := (LN 4 _ rfl).1
                go_wp2_with fail
                refine (HK.out _ rds wd hrn.2 HKP.out).mono ?_
                rintro e wk ⟨rfl, hbk⟩
                clear c0 c1 c2 c3 c4
                replace hrt := hrt.below hbk
                replace hrn := hrn.below hbk
                replace ow := ow.below hbk
                replace L := L.below hbk
                replace LW := LW.below hbk
                replace hB := hB.trans (hbk.mono hB.size)
                clear hbk hrt hrn LN LA
                have d0 := (LW 0 _ rfl).1
                have d1 := (LW 1 _ rfl).1
                have d2 := (LW 2 _ rfl).1
                have d3 := (LW 3 _ rfl).1
                have d4 := (LW 4 _ rfl).1
                have b0 := (L 0 _ rfl).1
                have b1 := (L 1 _ rfl).1
                have b2 := (L 2 _ rfl).1
                have b3 := (L 3 _ rfl).1
                have b4 := (L 4 _ rfl).1
                have f0 := (L 0 _ rfl).2
                have f1 := (L 1 _ rfl).2
                have f2 := (L 2 _ rfl).2
                have f3 := (L 3 _ rfl).2
                have f4 := (L 4 _ rfl).2
                have hch : Chg [g1] wk (((((wk.setCell ⟨g1, 0, none⟩ (.int .i64 rn)).setCell ⟨g1, 1, none⟩ (.slice D1 rcs.length l1)).setCell ⟨g1, 2, none⟩ (.slice D2 rpl.length l2)).setCell ⟨g1, 3, none⟩ (.slice D3 rds.length l3)).setCell ⟨g1, 4, none⟩ (.int .i64 rm)) := by repeat' (with_reducible first | exact Chg.refl _ _ | refine qC ?_)
                have hB2 : Below w1.heap.size w1 (((((wk.setCell ⟨g1, 0, none⟩ (.int .i64 rn)).setCell ⟨g1, 1, none⟩ (.slice D1 rcs.length l1)).setCell ⟨g1, 2, none⟩ (.slice D2 rpl.length l2)).setCell ⟨g1, 3, none⟩ (.slice D3 rds.length l3)).setCell ⟨g1, 4, none⟩ (.int .i64 rm)) := Below.chg hB hch hB.size (by simp; omega)
                have hr2 := (ow.chg hch (fun x hx hx' => HGS.out x hx (by simpa using hx'))).rd
                have L2 := (((((L.set (i := 0) (u := .int .i64 rn) (v := .int .i64 n) rfl).set (i := 1) (u := .slice D1 rcs.length l1) (v := .slice A1 cs.length n1) rfl).set (i := 2) (u := .slice D2 rpl.length l2) (v := .slice A2 pl.length n2) rfl).set (i := 3) (u := .slice D3 rds.length l3) (v := .slice A3 ds.length n3) rfl).set (i := 4) (u := .int .i64 rm) (v := .int .i64 m) rfl)
                have HB2 := Lib.hid hB2
                have HR2 := Lib.hid hr2
                have HL2 := Lib.hid L2
                clear hch hB2 hr2 L2 ow
                go_wp2_with fail
                go_roundw
                case rel => exact ⟨k + 1, rn, rm, rcs, rpl, rds, D1, D2, D3, l1, l2, l3, hlt, by go_num, int_eq HME.out.symm, H1, HR2.out, HL2.out, HB2.out⟩
                case measure => simp [intOf]; omega
              · skip
                by_cases hk6 : ka = 6
                · subst hk6
                  have HME : Hid (rm = m + 30) := by have := H2.out; rw [show dMoney 6 1 = 30 from rfl] at this; exact this.trans (rfl)
                  have hmn : (rm != m + 30) = false := by rw [bne_eq_false_iff_eq]; exact HME.out
                  clear H2
                  obtain ⟨e1, e2, e3⟩ := H3.out (by simp) (by simp)
                  have hh1 := has_any _ ds aa wq hrt.2
                  rw [e2] at hh1
                  have hh2 := has_any _ rds aa wq hrn.2
                  rw [e3] at hh2
                  subst e1
                  clear e2 e3
                  go_wp2_with fail
                  refine hh1.mono ?_
                  rintro e w' ⟨rfl, rfl⟩
                  go_wp2_with fail
                  refine hh2.mono ?_
                  rintro e w' ⟨rfl, rfl⟩
                  have c0 := (LN 0 _ rfl).1
                  have c1 := (LN 1 _ rfl).1
                  have c2 := (LN 2 _ rfl).1
                  have c3 := (LN 3 _ rfl).1
                  have c4 := (LN 4 _ rfl).1
                  go_wp2_with fail
                  refine (HK.out _ rds wq hrn.2 HKP.out).mono ?_
                  rintro e wk ⟨rfl, hbk⟩
                  clear c0 c1 c2 c3 c4
                  replace hrt := hrt.below hbk
                  replace hrn := hrn.below hbk
                  replace ow := ow.below hbk
                  replace L := L.below hbk
                  replace LW := LW.below hbk
                  replace hB := hB.trans (hbk.mono hB.size)
                  clear hbk hrt hrn LN LA
                  have d0 := (LW 0 _ rfl).1
                  have d1 := (LW 1 _ rfl).1
                  have d2 := (LW 2 _ rfl).1
                  have d3 := (LW 3 _ rfl).1
                  have d4 := (LW 4 _ rfl).1
                  have b0 := (L 0 _ rfl).1
                  have b1 := (L 1 _ rfl).1
                  have b2 := (L 2 _ rfl).1
                  have b3 := (L 3 _ rfl).1
                  have b4 := (L 4 _ rfl).1
                  have f0 := (L 0 _ rfl).2
                  have f1 := (L 1 _ rfl).2
                  have f2 := (L 2 _ rfl).2
                  have f3 := (L 3 _ rfl).2
                  have f4 := (L 4 _ rfl).2
                  have hch : Chg [g1] wk (((((wk.setCell ⟨g1, 0, none⟩ (.int .i64 rn)).setCell ⟨g1, 1, none⟩ (.slice D1 rcs.length l1)).setCell ⟨g1, 2, none⟩ (.slice D2 rpl.length l2)).setCell ⟨g1, 3, none⟩ (.slice D3 rds.length l3)).setCell ⟨g1, 4, none⟩ (.int .i64 rm)) := by repeat' (with_reducible first | exact Chg.refl _ _ | refine qC ?_)
                  have hB2 : Below w1.heap.size w1 (((((wk.setCell ⟨g1, 0, none⟩ (.int .i64 rn)).setCell ⟨g1, 1, none⟩ (.slice D1 rcs.length l1)).setCell ⟨g1, 2, none⟩ (.slice D2 rpl.length l2)).setCell ⟨g1, 3, none⟩ (.slice D3 rds.length l3)).setCell ⟨g1, 4, none⟩ (.int .i64 rm)) := Below.chg hB hch hB.size (by simp; omega)
                  have hr2 := (ow.chg hch (fun x hx hx' => HGS.out x hx (by simpa using hx'))).rd
                  have L2 := (((((L.set (i := 0) (u := .int .i64 rn) (v := .int .i64 n) rfl).set (i := 1) (u := .slice D1 rcs.length l1) (v := .slice A1 cs.length n1) rfl).set (i := 2) (u := .slice D2 rpl.length l2) (v := .slice A2 pl.length n2) rfl).set (i := 3) (u := .slice D3 rds.length l3) (v := .slice A3 ds.length n3) rfl).set (i := 4) (u := .int .i64 rm) (v := .int .i64 m) rfl)
                  have HB2 := Lib.hid hB2
                  have HR2 := Lib.hid hr2
                  have HL2 := Lib.hid L2
                  clear hch hB2 hr2 L2 ow
                  go_wp2_with fail
                  go_roundw
                  case rel => exact ⟨k + 1, rn, rm, rcs, rpl, rds, D1, D2, D3, l1, l2, l3, hlt, by go_num, int_eq HME.out.symm, H1, HR2.out, HL2.out, HB2.out⟩
                  case measure => simp [intOf]; omega
                · skip
                  by_cases hk5 : ka = 5
                  · subst hk5
                    have HME : Hid (rm = m) := by have := H2.out; rw [show dMoney 5 1 = 0 from rfl] at this; exact this.trans (Int.add_zero m)
                    have hmn : (rm != m) = false := by rw [bne_eq_false_iff_eq]; exact HME.out
                    clear H2
                    have HD := Lib.hid (H4.out (by decide))
                    go_wp2_with fail
                    refine (HS.out _ _ rds ds wq hrn.2 hrt.2 HD.out).mono ?_
                    rintro e wd ⟨rfl, hbd⟩
                    clear a0 a1 a2 b0 b1 b2 b3 b4 c0 c1 c2 c3 c4
                    replace hrt := hrt.below hbd
                    replace hrn := hrn.below hbd
                    replace ow := ow.below hbd
                    replace L := L.below hbd
                    replace LA := LA.below hbd
                    replace LN := LN.below hbd
                    replace LW := LW.below hbd
                    replace hB := hB.trans (hbd.mono hB.size)
                    clear hbd
                    have a0 := (LA 0 _ rfl).1
                    have a1 := (LA 1 _ rfl).1
                    have a2 := (LA 2 _ rfl).1
                    have c0 := (LN 0 _ rfl).1
                    have c1 := (LN 1 _ rfl).1
                    have c2 := (LN 2 _ rfl).1
                    have c3 := (LN 3 _ rfl).1
                    have c4 := (LN 4 _ rfl).1
                    have d0 := (LW 0 _ rfl).1
                    have d1 := (LW 1 _ rfl).1
                    have d2 := (LW 2 _ rfl).1
                    have d3 := (LW 3 _ rfl).1
                    have d4 := (LW 4 _ rfl).1
                    go_wp2_with fail
                    refine (implIsUntw_any rn _ rcs wd hrn.1.1 (H5.out (by simp) (by simp))).mono ?_
                    rintro e wu ⟨rfl, hbu⟩
                    clear a0 a1 a2 d0 d1 d2 d3 d4 c0 c1 c2 c3 c4
                    replace hrt := hrt.below hbu
                    replace hrn := hrn.below hbu
                    replace ow := ow.below hbu
                    replace L := L.below hbu
                    replace LA := LA.below hbu
                    replace LN := LN.below hbu
                    replace LW := LW.below hbu
                    replace hB := hB.trans (hbu.mono hB.size)
                    clear hbu
                    have c0 := (LN 0 _ rfl).1
                    have c1 := (LN 1 _ rfl).1
                    have c2 := (LN 2 _ rfl).1
                    have c3 := (LN 3 _ rfl).1
                    have c4 := (LN 4 _ rfl).1
                    go_wp2_with fail
                    refine (HK.out _ rds wu hrn.2 HKP.out).mono ?_
                    rintro e wk ⟨rfl, hbk⟩
                    clear c0 c1 c2 c3 c4
                    replace hrt := hrt.below hbk
                    replace hrn := hrn.below hbk
                    replace ow := ow.below hbk
                    replace L := L.below hbk
                    replace LW := LW.below hbk
                    replace hB := hB.trans (hbk.mono hB.size)
                    clear hbk hrt hrn LN LA
                    have d0 := (LW 0 _ rfl).1
                    have d1 := (LW 1 _ rfl).1
                    have d2 := (LW 2 _ rfl).1
                    have d3 := (LW 3 _ rfl).1
                    have d4 := (LW 4 _ rfl).1
                    have b0 := (L 0 _ rfl).1
                    have b1 := (L 1 _ rfl).1
                    have b2 := (L 2 _ rfl).1
                    have b3 := (L 3 _ rfl).1
                    have b4 := (L 4 _ rfl).1
                    have f0 := (L 0 _ rfl).2
                    have f1 := (L 1 _ rfl).2
                    have f2 := (L 2 _ rfl).2
                    have f3 := (L 3 _ rfl).2
                    have f4 := (L 4 _ rfl).2
                    have hch : Chg [g1] wk (((((wk.setCell ⟨g1, 0, none⟩ (.int .i64 rn)).setCell ⟨g1, 1, none⟩ (.slice D1 rcs.length l1)).setCell ⟨g1, 2, none⟩ (.slice D2 rpl.length l2)).setCell ⟨g1, 3, none⟩ (.slice D3 rds.length l3)).setCell ⟨g1, 4, none⟩ (.int .i64 rm)) := by repeat' (with_reducible first | exact Chg.refl _ _ | refine qC ?_)
                    have hB2 : Below w1.heap.size w1 (((((wk.setCell ⟨g1, 0, none⟩ (.int .i64 rn)).setCell ⟨g1, 1, none⟩ (.slice D1 rcs.length l1)).setCell ⟨g1, 2, none⟩ (.slice D2 rpl.length l2)).setCell ⟨g1, 3, none⟩ (.slice D3 rds.length l3)).setCell ⟨g1, 4, none⟩ (.int .i64 rm)) := Below.chg hB hch hB.size (by simp; omega)
                    have hr2 := (ow.chg hch (fun x hx hx' => HGS.out x hx (by simpa using hx'))).rd
                    have L2 := (((((L.set (i := 0) (u := .int .i64 rn) (v := .int .i64 n) rfl).set (i := 1) (u := .slice D1 rcs.length l1) (v := .slice A1 cs.length n1) rfl).set (i := 2) (u := .slice D2 rpl.length l2) (v := .slice A2 pl.length n2) rfl).set (i := 3) (u := .slice D3 rds.length l3) (v := .slice A3 ds.length n3) rfl).set (i := 4) (u := .int .i64 rm) (v := .int .i64 m) rfl)
                    have HB2 := Lib.hid hB2
                    have HR2 := Lib.hid hr2
                    have HL2 := Lib.hid L2
                    clear hch hB2 hr2 L2 ow
                    go_wp2_with fail
                    go_roundw
                    case rel => exact ⟨k + 1, rn, rm, rcs, rpl, rds, D1, D2, D3, l1, l2, l3, hlt, by go_num, int_eq HME.out.symm, H1, HR2.out, HL2.out, HB2.out⟩
                    case measure => simp [intOf]; omega
                  · skip
                    have HME : Hid (rm = m) := by have := H2.out; rw [show dMoney ka 1 = 0 from dM_o hk1 hk2 hk6] at this; exact this.trans (Int.add_zero m)
                    have hmn : (rm != m) = false := by rw [bne_eq_false_iff_eq]; exact HME.out
                    clear H2
                    have f1 : (ka == 1) = false := beq_eq_false_iff_ne.2 hk1
                    have f2 : (ka == 2) = false := beq_eq_false_iff_ne.2 hk2
                    have f6 : (ka == 6) = false := beq_eq_false_iff_ne.2 hk6
                    have f5 : (ka == 5) = false := beq_eq_false_iff_ne.2 hk5
                    have g6 : (ka != 6) = true := bne_iff_ne.2 hk6
                    have HD := Lib.hid (H4.out hk6)
                    go_wp2_with fail
                    refine (HS.out _ _ rds ds wq hrn.2 hrt.2 HD.out).mono ?_
                    rintro e wd ⟨rfl, hbd⟩
                    clear a0 a1 a2 b0 b1 b2 b3 b4 c0 c1 c2 c3 c4
                    replace hrt := hrt.below hbd
                    replace hrn := hrn.below hbd
                    replace ow := ow.below hbd
                    replace L := L.below hbd
                    replace LA := LA.below hbd
                    replace LN := LN.below hbd
                    replace LW := LW.below hbd
                    replace hB := hB.trans (hbd.mono hB.size)
                    clear hbd
                    have a0 := (LA 0 _ rfl).1
                    have a1 := (LA 1 _ rfl).1
                    have a2 := (LA 2 _ rfl).1
                    have c0 := (LN 0 _ rfl).1
                    have c1 := (LN 1 _ rfl).1
                    have c2 := (LN 2 _ rfl).1
                    have c3 := (LN 3 _ rfl).1
                    have c4 := (LN 4 _ rfl).1
                    go_wp2_with fail
                    refine (HK.out _ rds wd hrn.2 HKP.out).mono ?_
                    rintro e wk ⟨rfl, hbk⟩
                    clear c0 c1 c2 c3 c4
                    replace hrt := hrt.below hbk
                    replace hrn := hrn.below hbk
                    replace ow := ow.below hbk
                    replace L := L.below hbk
                    replace LW := LW.below hbk
                    replace hB := hB.trans (hbk.mono hB.size)
                    clear hbk hrt hrn LN LA
                    have d0 := (LW 0 _ rfl).1
                    have d1 := (LW 1 _ rfl).1
                    have d2 := (LW 2 _ rfl).1
                    have d3 := (LW 3 _ rfl).1
                    have d4 := (LW 4 _ rfl).1
                    have b0 := (L 0 _ rfl).1
                    have b1 := (L 1 _ rfl).1
                    have b2 := (L 2 _ rfl).1
                    have b3 := (L 3 _ rfl).1
                    have b4 := (L 4 _ rfl).1
                    have f0 := (L 0 _ rfl).2
                    have f1 := (L 1 _ rfl).2
                    have f2 := (L 2 _ rfl).2
                    have f3 := (L 3 _ rfl).2
                    have f4 := (L 4 _ rfl).2
                    have hch : Chg [g1] wk (((((wk.setCell ⟨g1, 0, none⟩ (.int .i64 rn)).setCell ⟨g1, 1, none⟩ (.slice D1 rcs.length l1)).setCell ⟨g1, 2, none⟩ (.slice D2 rpl.length l2)).setCell ⟨g1, 3, none⟩ (.slice D3 rds.length l3)).setCell ⟨g1, 4, none⟩ (.int .i64 rm)) := by repeat' (with_reducible first | exact Chg.refl _ _ | refine qC ?_)
                    have hB2 : Below w1.heap.size w1 (((((wk.setCell ⟨g1, 0, none⟩ (.int .i64 rn)).setCell ⟨g1, 1, none⟩ (.slice D1 rcs.length l1)).setCell ⟨g1, 2, none⟩ (.slice D2 rpl.length l2)).setCell ⟨g1, 3, none⟩ (.slice D3 rds.length l3)).setCell ⟨g1, 4, none⟩ (.int .i64 rm)) := Below.chg hB hch hB.size (by simp; omega)
                    have hr2 := (ow.chg hch (fun x hx hx' => HGS.out x hx (by simpa using hx'))).rd
                    have L2 := (((((L.set (i := 0) (u := .int .i64 rn) (v := .int .i64 n) rfl).set (i := 1) (u := .slice D1 rcs.length l1) (v := .slice A1 cs.length n1) rfl).set (i := 2) (u := .slice D2 rpl.length l2) (v := .slice A2 pl.length n2) rfl).set (i := 3) (u := .slice D3 rds.length l3) (v := .slice A3 ds.length n3) rfl).set (i := 4) (u := .int .i64 rm) (v := .int .i64 m) rfl)
                    have HB2 := Lib.hid hB2
                    have HR2 := Lib.hid hr2
                    have HL2 := Lib.hid L2
                    clear hch hB2 hr2 L2 ow
                    go_wp2_with fail
                    go_roundw
                    case rel => exact ⟨k + 1, rn, rm, rcs, rpl, rds, D1, D2, D3, l1, l2, l3, hlt, by go_num, int_eq HME.out.symm, H1, HR2.out, HL2.out, HB2.out⟩
                    case measure => simp [intOf]; omega
          · by_cases hk6 : ka = 6
            · subst hk6
              have HME : Hid (rm = m) := by have := H2.out; rw [show dMoney 6 rk = 0 from dM_n h1] at this; exact this.trans (Int.add_zero m)
              have hmn : (rm != m) = false := by rw [bne_eq_false_iff_eq]; exact HME.out
              clear H2
              have f0 : (rk == 1) = false := by rw [beq_eq_false_iff_ne]; exact h1
              clear h1
              have c0 := (LN 0 _ rfl).1
              have c1 := (LN 1 _ rfl).1
              have c2 := (LN 2 _ rfl).1
              have c3 := (LN 3 _ rfl).1
              have c4 := (LN 4 _ rfl).1
              go_wp2_with fail
              refine (HK.out _ rds wq hrn.2 HKP.out).mono ?_
              rintro e wk ⟨rfl, hbk⟩
              clear c0 c1 c2 c3 c4
              replace hrt := hrt.below hbk
              replace hrn := hrn.below hbk
              replace ow := ow.below hbk
              replace L := L.below hbk
              replace LW := LW.below hbk
              replace hB := hB.trans (hbk.mono hB.size)
              clear hbk hrt hrn LN LA
              have d0 := (LW 0 _ rfl).1
              have d1 := (LW 1 _ rfl).1
              have d2 := (LW 2 _ rfl).1
              have d3 := (LW 3 _ rfl).1
              have d4 := (LW 4 _ rfl).1
              have b0 := (L 0 _ rfl).1
              have b1 := (L 1 _ rfl).1
              have b2 := (L 2 _ rfl).1
              have b3 := (L 3 _ rfl).1
              have b4 := (L 4 _ rfl).1
              have f0 := (L 0 _ rfl).2
              have f1 := (L 1 _ rfl).2
              have f2 := (L 2 _ rfl).2
              have f3 := (L 3 _ rfl).2
              have f4 := (L 4 _ rfl).2
              have hch : Chg [g1] wk (((((wk.setCell ⟨g1, 0, none⟩ (.int .i64 rn)).setCell ⟨g1, 1, none⟩ (.slice D1 rcs.length l1)).setCell ⟨g1, 2, none⟩ (.slice D2 rpl.length l2)).setCell ⟨g1, 3, none⟩ (.slice D3 rds.length l3)).setCell ⟨g1, 4, none⟩ (.int .i64 rm)) := by repeat' (with_reducible first | exact Chg.refl _ _ | refine qC ?_)
              have hB2 : Below w1.heap.size w1 (((((wk.setCell ⟨g1, 0, none⟩ (.int .i64 rn)).setCell ⟨g1, 1, none⟩ (.slice D1 rcs.length l1)).setCell ⟨g1, 2, none⟩ (.slice D2 rpl.length l2)).setCell ⟨g1, 3, none⟩ (.slice D3 rds.length l3)).setCell ⟨g1, 4, none⟩ (.int .i64 rm)) := Below.chg hB hch hB.size (by simp; omega)
              have hr2 := (ow.chg hch (fun x hx hx' => HGS.out x hx (by simpa using hx'))).rd
              have L2 := (((((L.set (i := 0) (u := .int .i64 rn) (v := .int .i64 n) rfl).set (i := 1) (u := .slice D1 rcs.length l1) (v := .slice A1 cs.length n1) rfl).set (i := 2) (u := .slice D2 rpl.length l2) (v := .slice A2 pl.length n2) rfl).set (i := 3) (u := .slice D3 rds.length l3) (v := .slice A3 ds.length n3) rfl).set (i := 4) (u := .int .i64 rm) (v := .int .i64 m) rfl)
              have HB2 := Lib.hid hB2
              have HR2 := Lib.hid hr2
              have HL2 := Lib.hid L2
              clear hch hB2 hr2 L2 ow
              go_wp2_with fail
              go_roundw
              case rel => exact ⟨k + 1, rn, rm, rcs, rpl, rds, D1, D2, D3, l1, l2, l3, hlt, by go_num, int_eq HME.out.symm, H1, HR2.out, HL2.out, HB2.out⟩
              case measure => simp [intOf]; omega
            · have g6 : (ka != 6) = true := by rw [bne_iff_ne]; exact hk6
              have HME : Hid (rm = m) := by have := H2.out; rw [show dMoney ka rk = 0 from dM_n h1] at this; exact this.trans (Int.add_zero m)
              have hmn : (rm != m) = false := by rw [bne_eq_false_iff_eq]; exact HME.out
              clear H2
              have f0 : (rk == 1) = false := by rw [beq_eq_false_iff_ne]; exact h1
              clear h1
              have HD := Lib.hid (H4.out hk6)
              go_wp2_with fail
              refine (HS.out _ _ rds ds wq hrn.2 hrt.2 HD.out).mono ?_
              rintro e wd ⟨rfl, hbd⟩
              clear a0 a1 a2 b0 b1 b2 b3 b4 c0 c1 c2 c3 c4
              replace hrt := hrt.below hbd
              replace hrn := hrn.below hbd
              replace ow := ow.below hbd
              replace L := L.below hbd
              replace LA := LA.below hbd
              replace LN := LN.below hbd
              replace LW := LW.below hbd
              replace hB := hB.trans (hbd.mono hB.size)
              clear hbd
              have a0 := (LA 0 _ rfl).1
              have a1 := (LA 1 _ rfl).1
              have a2 := (LA 2 _ rfl).1
              have c0 := (LN 0 _ rfl).1
              have c1 := (LN 1 _ rfl).1
              have c2 := (LN 2 _ rfl).1
              have c3 := (LN 3 _ rfl).1
              have c4 := (LN 4 _ rfl).1
              go_wp2_with fail
              refine (HK.out _ rds wd hrn.2 HKP.out).mono ?_
              rintro e wk ⟨rfl, hbk⟩
              clear c0 c1 c2 c3 c4
              replace hrt := hrt.below hbk
              replace hrn := hrn.below hbk
              replace ow := ow.below hbk
              replace L := L.below hbk
              replace LW := LW.below hbk
              replace hB := hB.trans (hbk.mono hB.size)
              clear hbk hrt hrn LN LA
              have d0 := (LW 0 _ rfl).1
              have d1 := (LW 1 _ rfl).1
              have d2 := (LW 2 _ rfl).1
              have d3 := (LW 3 _ rfl).1
              have d4 := (LW 4 _ rfl).1
              have b0 := (L 0 _ rfl).1
              have b1 := (L 1 _ rfl).1
              have b2 := (L 2 _ rfl).1
              have b3 := (L 3 _ rfl).1
              have b4 := (L 4 _ rfl).1
              have f0 := (L 0 _ rfl).2
              have f1 := (L 1 _ rfl).2
              have f2 := (L 2 _ rfl).2
              have f3 := (L 3 _ rfl).2
              have f4 := (L 4 _ rfl).2
              have hch : Chg [g1] wk (((((wk.setCell ⟨g1, 0, none⟩ (.int .i64 rn)).setCell ⟨g1, 1, none⟩ (.slice D1 rcs.length l1)).setCell ⟨g1, 2, none⟩ (.slice D2 rpl.length l2)).setCell ⟨g1, 3, none⟩ (.slice D3 rds.length l3)).setCell ⟨g1, 4, none⟩ (.int .i64 rm)) := by repeat' (with_reducible first | exact Chg.refl _ _ | refine qC ?_)
              have hB2 : Below w1.heap.size w1 (((((wk.setCell ⟨g1, 0, none⟩ (.int .i64 rn)).setCell ⟨g1, 1, none⟩ (.slice D1 rcs.length l1)).setCell ⟨g1, 2, none⟩ (.slice D2 rpl.length l2)).setCell ⟨g1, 3, none⟩ (.slice D3 rds.length l3)).setCell ⟨g1, 4, none⟩ (.int .i64 rm)) := Below.chg hB hch hB.size (by simp; omega)
              have hr2 := (ow.chg hch (fun x hx hx' => HGS.out x hx (by simpa using hx'))).rd
              have L2 := (((((L.set (i := 0) (u := .int .i64 rn) (v := .int .i64 n) rfl).set (i := 1) (u := .slice D1 rcs.length l1) (v := .slice A1 cs.length n1) rfl).set (i := 2) (u := .slice D2 rpl.length l2) (v := .slice A2 pl.length n2) rfl).set (i := 3) (u := .slice D3 rds.length l3) (v := .slice A3 ds.length n3) rfl).set (i := 4) (u := .int .i64 rm) (v := .int .i64 m) rfl)
              have HB2 := Lib.hid hB2
              have HR2 := Lib.hid hr2
              have HL2 := Lib.hid L2
              clear hch hB2 hr2 L2 ow
              go_wp2_with fail
              go_roundw
              case rel => exact ⟨k + 1, rn, rm, rcs, rpl, rds, D1, D2, D3, l1, l2, l3, hlt, by go_num, int_eq HME.out.symm, H1, HR2.out, HL2.out, HB2.out⟩
              case measure => simp [intOf]; omega
    · clear hra
      have HWI : Hid (∀ W, RdCompany W (.slice A1 cs.length n1) (.slice A2 pl.length n2) cs pl → Calls Tryz.prog 54 #[.agg #[.int .i64 n, .slice A1 cs.length n1, .slice A2 pl.length n2]] W fun e w' => e = .returned (.int .i64 (whyF n cs pl)) ∧ Below W.heap.size W w') := fun W hr => implWhyNot_any n _ _ cs pl W hr
      have HWS : Hid (∀ W, RdCompany W (.slice A1 cs.length n1) (.slice A2 pl.length n2) cs pl → Calls Tryz.prog 33 #[.agg #[.int .i64 n, .slice A1 cs.length n1, .slice A2 pl.length n2]] W fun e w' => e = .returned (.int .i64 (whyF n cs pl)) ∧ Below W.heap.size W w') := fun W hr => specWhyNot_any n _ _ cs pl W hr
      generalize whyF n cs pl = wy at *
      go_upto_region 32 with (fail)
      refine region_guardedL (n := 210) 11 (by kernel_rfl) rfl (by kernel_rfl) [2] (by kernel_rfl) (fun j => if j = 2 then true else false) (fun w' => Below wr.heap.size wr w') (fun _ => 0) (pft n m wy g1 A1 A2 A3 cs.length pl.length ds.length n1 n2 n3) ⟨fun _ _ _ h => h, trivial⟩ (Below.refl _ _).drew ?_ ?_ ?_
      · intro i v gh gh' w1 w2 hp hJ hb' hg
        match i, hp with
        | 0, hp => exact hp
        | 1, hp => exact hp
        | 2, hp => exact hp
        | 3, hp => exact hp
        | 4, hp => exact hp
        | 5, hp => exact hp
        | 6, hp => exact hp
        | 7, hp => exact hp
        | 8, hp => exact hp
        | 9, hp => exact hp
        | 10, hp => exact hp
        | _ + 11, _ => trivial
      · refine ⟨?_, ?_, ?_, ?_, ?_, ?_, ?_, ?_, ?_, ?_, ?_, trivial⟩
        · intro a gh w5 hag hJ hd
          dsimp only [bareO]
          have ag3 : a.tmps.getD 3 undef = .pointer (some ⟨g1, 0, none⟩) := hag.kept 3 (by kernel_rfl)
          clear hag
          have b0 := ((L.below hJ) 0 _ rfl).1
          have b1 := ((L.below hJ) 1 _ rfl).1
          have b2 := ((L.below hJ) 2 _ rfl).1
          have b3 := ((L.below hJ) 3 _ rfl).1
          have b4 := ((L.below hJ) 4 _ rfl).1
          go_wp2_with fail
          exact ⟨rfl, _, rfl, rfl, hJ, Below.refl _ _⟩
        · intro a gh w5 hag hJ hd
          dsimp only [bareO]
          clear hag
          have e0 : a.tmps.getD 199 undef = .agg #[.int .i64 n, .slice A1 cs.length n1, .slice A2 pl.length n2, .slice A3 ds.length n3, .int .i64 m] := hd 0 (by kernel_rfl) _ rfl
          go_wp2_with fail
          refine (HT.out n m _ _ _ cs pl ds w5 (hrt.below hJ) Hok.out).mono ?_
          rintro e w6 ⟨rfl, hb6⟩
          go_wp2_with fail
          exact ⟨rfl, _, rfl, rfl, bl_trans hJ hb6, hb6⟩
        · intro a gh w5 hag hJ hd
          dsimp only [bareO]
          clear hag
          have e0 : a.tmps.getD 200 undef = .bool true := hd 1 (by kernel_rfl) _ rfl
          go_wp2_with fail
          exact ⟨rfl, _, rfl, rfl, hJ, Below.refl _ _⟩
        · intro a gh w5 hag hJ hd
          dsimp only [bareO]
          have ag3 : a.tmps.getD 3 undef = .pointer (some ⟨g1, 0, none⟩) := hag.kept 3 (by kernel_rfl)
          clear hag
          go_wp2_with fail
          exact ⟨rfl, _, rfl, rfl, hJ, Below.refl _ _⟩
        · intro a gh w5 hag hJ hd
          dsimp only [bareO]
          clear hag
          have e0 : a.tmps.getD 202 undef = .pointer (some ⟨g1, 0, none⟩) := hd 3 (by kernel_rfl) _ rfl
          have b0 := ((L.below hJ) 0 _ rfl).1
          have b1 := ((L.below hJ) 1 _ rfl).1
          have b2 := ((L.below hJ) 2 _ rfl).1
          have b3 := ((L.below hJ) 3 _ rfl).1
          have b4 := ((L.below hJ) 4 _ rfl).1
          go_wp2_with fail
          exact ⟨rfl, _, rfl, rfl, hJ, Below.refl _ _⟩
        · intro a gh w5 hag hJ hd
          dsimp only [bareO]
          clear hag
          have e0 : a.tmps.getD 203 undef = .agg #[.int .i64 n, .slice A1 cs.length n1, .slice A2 pl.length n2] := hd 4 (by kernel_rfl) _ rfl
          go_wp2_with fail
          refine (HWI.out w5 (hrt.below hJ).1).mono ?_
          rintro e w6 ⟨rfl, hb6⟩
          go_wp2_with fail
          exact ⟨rfl, _, rfl, rfl, bl_trans hJ hb6, hb6⟩
        · intro a gh w5 hag hJ hd
          dsimp only [bareO]
          have ag3 : a.tmps.getD 3 undef = .pointer (some ⟨g1, 0, none⟩) := hag.kept 3 (by kernel_rfl)
          clear hag
          go_wp2_with fail
          exact ⟨rfl, _, rfl, rfl, hJ, Below.refl _ _⟩
        · intro a gh w5 hag hJ hd
          dsimp only [bareO]
          clear hag
          have e0 : a.tmps.getD 205 undef = .pointer (some ⟨g1, 0, none⟩) := hd 6 (by kernel_rfl) _ rfl
          have b0 := ((L.below hJ) 0 _ rfl).1
          have b1 := ((L.below hJ) 1 _ rfl).1
          have b2 := ((L.below hJ) 2 _ rfl).1
          have b3 := ((L.below hJ) 3 _ rfl).1
          have b4 := ((L.below hJ) 4 _ rfl).1
          go_wp2_with fail
          exact ⟨rfl, _, rfl, rfl, hJ, Below.refl _ _⟩
        · intro a gh w5 hag hJ hd
          dsimp only [bareO]
          clear hag
          have e0 : a.tmps.getD 206 undef = .agg #[.int .i64 n, .slice A1 cs.length n1, .slice A2 pl.length n2] := hd 7 (by kernel_rfl) _ rfl
          go_wp2_with fail
          refine (HWS.out w5 (hrt.below hJ).1).mono ?_
          rintro e w6 ⟨rfl, hb6⟩
          go_wp2_with fail
          exact ⟨rfl, _, rfl, rfl, bl_trans hJ hb6, hb6⟩
        · intro a gh w5 hag hJ hd
          dsimp only [bareO]
          clear hag
          have e0 : a.tmps.getD 204 undef = .int .i64 wy := hd 5 (by kernel_rfl) _ rfl
          have e1 : a.tmps.getD 207 undef = .int .i64 wy := hd 8 (by kernel_rfl) _ rfl
          go_wp2_with fail
          exact ⟨rfl, _, rfl, rfl, hJ, Below.refl _ _⟩
        · intro a gh w5 hag hJ hd
          dsimp only [bareO]
          clear hag
          have e0 : a.tmps.getD 201 undef = .bool true := hd 2 (by kernel_rfl) _ rfl
          have e1 : a.tmps.getD 208 undef = .bool true := hd 9 (by kernel_rfl) _ rfl
          go_wp2_with fail
          exact ⟨rfl, _, rfl, rfl, hJ, Below.refl _ _⟩
      · intro a gh w5 hag hJ hd
        have ag3 : a.tmps.getD 3 undef = .pointer (some ⟨g1, 0, none⟩) := hag.kept 3 (by kernel_rfl)
        rw [act210ft hag.size hag.defers]
        clear hag
        have e209 : a.tmps.getD 209 undef = .bool true := hd 10 (by kernel_rfl) _ rfl
        rw [ag3, e209]
        change wpList _ _ _ [_] _ _
        clear hd
        go_wp2_with fail
        go_ret
        exact ⟨rfl, bl_trans hbw (hB.trans (hJ.mono hB.size))⟩
set_option maxRecDepth 100000 in
set_option maxHeartbeats 1000000 in
theorem fnTop_lifted (os : Os) (started : os.Started) (H : Type) (enc : TypeId × Value → H) :
    ReturnsInHanded {} Tryz.checked os 9 .any (Rows.fnTopSpec.pre6 enc Tryz.prog Tryz.f9 Rows.fnTopRow.domain false) (Rows.fnTopSpec.post enc Tryz.prog Tryz.f9 false true false false) := by
  refine returnsInHanded_of_change (C := Tryz.checked) tryOwn started (by kernel_rfl) Tryz.func9
    (ChangeSpec.witness6 (enc := enc) (C := Tryz.checked) false ⟨#[], #[.slice none 0 0], []⟩ 12 (by kernel_rfl) (by kernel_rfl) (by kernel_rfl) (by kernel_rfl)) ?_
  intro W base args ds gs before hval0 hW hcnd _
  have hval : ∀ (j : Nat) t v, Tryz.f9.params[j]? = some t → args[j]? = some v → Value.okWide Tryz.prog W .any base t v := hval0
  have hW' := hW
  obtain ⟨p, q, hA0, hV, rfl, hfz, hnd⟩ := hW
  have hA : DataW.TrodAll enc Tryz.prog W 0 (fun _ => true) true Tryz.f9.params.toList args.toList ds p := hA0
  rw [Tryz.params9] at hA hval
  obtain ⟨v0, vs0, d0, ds0, p0, q0, hargs, rfl, rfl, h0, r0⟩ := trodAll_cons hA
  obtain ⟨rfl, rfl, rfl⟩ := trodAll_nil r0
  obtain rfl : args = #[v0] := by cases args; simp_all
  obtain ⟨rfl, rfl⟩ := trodVars_none hV
  have e0 := h0
  have lt0 : ∀ x ∈ p0, x.block < W.heap.size := by obtain ⟨m, hm⟩ := e0; exact DataW.trod_lt m _ _ _ hm
  have ok0 := hval 0 60 v0 rfl rfl
  clear hA0 hval0 hval
  obtain ⟨xs, hrd, hby⟩ := arg_slice Tryz.underlying60 ok0 h0 (opens_slice (f := cU8) (size := 1) Tryz.underlying60 (by kernel_rfl) (by omega) cU8_len (opens_u8 Tryz.underlying5))
  obtain ⟨A, c, rfl, _⟩ := RdS.form hrd
  refine (lawFnTop_any A c xs W hrd hby).mono fun e W' ⟨he, bel⟩ => ?_
  subst he
  exact ⟨_, rfl, _, _, _, [], _, [], hW', trodAll_mk1 (shut_bool Tryz.underlying4 _), (trodAll_cons_mk (Below.trod tryLaid (by kernel_rfl) (of_decide_eq_true (by kernel_rfl)) e0 bel lt0) trodAll_mk0), rfl, bel.frame _, fun h => by cases h⟩
theorem fnTop_holds : Rows.FnTopSaid :=
  OpenClaim.holds_of_wide 9 Tryz.f9 rfl rfl rfl rfl rfl rfl rfl ⟨rfl, rfl, rfl, rfl, rfl⟩ rfl rfl rfl rfl rfl (by kernel_rfl) Tryz.func9 (by kernel_rfl)
    (of_decide_eq_true (by kernel_rfl)) (by unfold Func.isWrapper; first | (rw [if_pos (by decide +kernel)]; kernel_rfl) | (rw [if_neg (by decide +kernel)]; exact ⟨rfl, rfl⟩))
    (fun os started H enc _ => fnTop_lifted os started H enc)
#print axioms fnTop_holds
end Go.Proofs.YtlhdeojkpmpecaaGreat
