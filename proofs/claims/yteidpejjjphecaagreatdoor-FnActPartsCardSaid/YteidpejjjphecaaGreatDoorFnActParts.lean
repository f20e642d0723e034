/- FnActParts: the law returns true for every input. No condition beside the card's own (the library's tables read as their text lays them). Written by a program (gen_fap.py). -/
import Derived.Test.YteidpejjjphecaaGreatDoorCards
import Derived.Test.YteidpejjjphecaaGreatDoorTie
import Derived.SevenTiedAt
import Derived.LaidMore
import Derived.MakeChecks
import Derived.OpenShut
import Derived.Test.YteidpejjjphecaaGreatDoorBdH16x3
import Derived.Test.YteidpejjjphecaaGreatDoorO4
import Derived.Test.YteidpejjjphecaaGreatDoorBdO1x2
namespace Go.Proofs.YteidpejjjphecaaGreatDoor
open Go.ChangeShapes Go.WideShapes Go.ChangeAt Go.RowKit Go.Deep
set_option maxRecDepth 100000 in
theorem act71ap {a : Act} (h : a.tmps.size = 71) (hd : a.defers = []) : a = ⟨List.toArray (a.tmps.getD 0 undef :: a.tmps.getD 1 undef :: a.tmps.getD 2 undef :: a.tmps.getD 3 undef :: a.tmps.getD 4 undef :: a.tmps.getD 5 undef :: a.tmps.getD 6 undef :: a.tmps.getD 7 undef :: a.tmps.getD 8 undef :: a.tmps.getD 9 undef :: a.tmps.getD 10 undef :: a.tmps.getD 11 undef :: a.tmps.getD 12 undef :: a.tmps.getD 13 undef :: a.tmps.getD 14 undef :: a.tmps.getD 15 undef :: a.tmps.getD 16 undef :: a.tmps.getD 17 undef :: a.tmps.getD 18 undef :: a.tmps.getD 19 undef :: a.tmps.getD 20 undef :: a.tmps.getD 21 undef :: a.tmps.getD 22 undef :: a.tmps.getD 23 undef :: a.tmps.getD 24 undef :: a.tmps.getD 25 undef :: a.tmps.getD 26 undef :: a.tmps.getD 27 undef :: a.tmps.getD 28 undef :: a.tmps.getD 29 undef :: a.tmps.getD 30 undef :: a.tmps.getD 31 undef :: a.tmps.getD 32 undef :: a.tmps.getD 33 undef :: a.tmps.getD 34 undef :: a.tmps.getD 35 undef :: a.tmps.getD 36 undef :: a.tmps.getD 37 undef :: a.tmps.getD 38 undef :: a.tmps.getD 39 undef :: a.tmps.getD 40 undef :: a.tmps.getD 41 undef :: a.tmps.getD 42 undef :: a.tmps.getD 43 undef :: a.tmps.getD 44 undef :: a.tmps.getD 45 undef :: a.tmps.getD 46 undef :: a.tmps.getD 47 undef :: a.tmps.getD 48 undef :: a.tmps.getD 49 undef :: a.tmps.getD 50 undef :: a.tmps.getD 51 undef :: a.tmps.getD 52 undef :: a.tmps.getD 53 undef :: a.tmps.getD 54 undef :: a.tmps.getD 55 undef :: a.tmps.getD 56 undef :: a.tmps.getD 57 undef :: a.tmps.getD 58 undef :: a.tmps.getD 59 undef :: a.tmps.getD 60 undef :: a.tmps.getD 61 undef :: a.tmps.getD 62 undef :: a.tmps.getD 63 undef :: a.tmps.getD 64 undef :: a.tmps.getD 65 undef :: a.tmps.getD 66 undef :: a.tmps.getD 67 undef :: a.tmps.getD 68 undef :: a.tmps.getD 69 undef :: a.tmps.getD 70 undef :: []), []⟩ := act_eq 71 h hd
def pap (B : Nat) (n m yn ym : Int) (A1 A2 A3 A5 : Option Addr) (n1 n2 n3 n5 k : Nat) (cs ycs : List RCross) (pl ypl : List RPl) (ds yds fs : List Int) (acts : List RAct) (i : Nat) (v : Value) (gh : Nat → Nat) (w : World) : Prop :=
 match i with
 | 0 => v = .agg #[.int .i64 n, .slice A1 cs.length n1, .slice A2 pl.length n2, .slice A3 ds.length n3, .int .i64 m]
 | 1 => v = .slice A5 acts.length n5
 | 2 => v = .int .i64 k
 | 3 => ∃ (A6 : Option Addr) (c6 : Nat), v = .slice A6 k c6 ∧ RdL cAct 3 w (.slice A6 k c6) (acts.take k)
 | 4 => ∃ (Y1 Y2 Y3 AF : Option Addr) (k1 k2 k3 cF : Nat), v = .tuple #[.agg #[.int .i64 yn, .slice Y1 ycs.length k1, .slice Y2 ypl.length k2, .slice Y3 yds.length k3, .int .i64 ym], .slice AF fs.length cF] ∧ OwG B (fun w T => OwTI w T (.slice Y1 ycs.length k1) (.slice Y2 ypl.length k2) (.slice Y3 yds.length k3) (.slice AF fs.length cF) ycs ypl yds fs) 1 gh w
 | 5 => ∃ (Y1 Y2 Y3 AF : Option Addr) (k1 k2 k3 cF : Nat), v = .tuple #[.agg #[.int .i64 yn, .slice Y1 ycs.length k1, .slice Y2 ypl.length k2, .slice Y3 yds.length k3, .int .i64 ym], .slice AF fs.length cF] ∧ OwG B (fun w T => OwTI w T (.slice Y1 ycs.length k1) (.slice Y2 ypl.length k2) (.slice Y3 yds.length k3) (.slice AF fs.length cF) ycs ypl yds fs) 1 gh w
 | 6 => ∃ (Y1 Y2 Y3 AF : Option Addr) (k1 k2 k3 cF : Nat), v = .agg #[.int .i64 yn, .slice Y1 ycs.length k1, .slice Y2 ypl.length k2, .slice Y3 yds.length k3, .int .i64 ym] ∧ OwG B (fun w T => OwTI w T (.slice Y1 ycs.length k1) (.slice Y2 ypl.length k2) (.slice Y3 yds.length k3) (.slice AF fs.length cF) ycs ypl yds fs) 1 gh w
 | 7 => ∃ (Y1 Y2 Y3 AF : Option Addr) (k1 k2 k3 cF : Nat), v = .slice AF fs.length cF ∧ OwG B (fun w T => OwTI w T (.slice Y1 ycs.length k1) (.slice Y2 ypl.length k2) (.slice Y3 yds.length k3) (.slice AF fs.length cF) ycs ypl yds fs) 1 gh w
 | 8 => ∃ xb, v = .pointer (some ⟨xb, 0, none⟩) ∧ B ≤ xb ∧ Loc w xb [.int .i64 0, .slice none 0 0, .slice none 0 0, .slice none 0 0, .int .i64 0] ∧ gh xb = 2 ∧ xb < w.heap.size
 | _ => True
def paq (B : Nat) (n' m' yn ym : Int) (Y1 Y2 Y3 A5 : Option Addr) (k1 k2 k3 n5 k : Nat) (cs' ycs : List RCross) (pl' ypl : List RPl) (ds' yds rs : List Int) (acts : List RAct) (i : Nat) (v : Value) (gh : Nat → Nat) (w : World) : Prop :=
 match i with
 | 0 => v = .agg #[.int .i64 yn, .slice Y1 ycs.length k1, .slice Y2 ypl.length k2, .slice Y3 yds.length k3, .int .i64 ym]
 | 1 => v = .slice A5 acts.length n5
 | 2 => v = .int .i64 k
 | 3 => ∃ (A6 : Option Addr) (c6 : Nat), v = .slice A6 (acts.length - k) c6 ∧ RdL cAct 3 w (.slice A6 (acts.length - k) c6) (acts.drop k)
 | 4 => ∃ (Z1 Z2 Z3 AR : Option Addr) (z1 z2 z3 cR : Nat), v = .tuple #[.agg #[.int .i64 n', .slice Z1 cs'.length z1, .slice Z2 pl'.length z2, .slice Z3 ds'.length z3, .int .i64 m'], .slice AR rs.length cR] ∧ OwG B (fun w T => OwTI w T (.slice Z1 cs'.length z1) (.slice Z2 pl'.length z2) (.slice Z3 ds'.length z3) (.slice AR rs.length cR) cs' pl' ds' rs) 1 gh w
 | 5 => ∃ (Z1 Z2 Z3 AR : Option Addr) (z1 z2 z3 cR : Nat), v = .tuple #[.agg #[.int .i64 n', .slice Z1 cs'.length z1, .slice Z2 pl'.length z2, .slice Z3 ds'.length z3, .int .i64 m'], .slice AR rs.length cR] ∧ OwG B (fun w T => OwTI w T (.slice Z1 cs'.length z1) (.slice Z2 pl'.length z2) (.slice Z3 ds'.length z3) (.slice AR rs.length cR) cs' pl' ds' rs) 1 gh w
 | 6 => ∃ (Z1 Z2 Z3 AR : Option Addr) (z1 z2 z3 cR : Nat), v = .agg #[.int .i64 n', .slice Z1 cs'.length z1, .slice Z2 pl'.length z2, .slice Z3 ds'.length z3, .int .i64 m'] ∧ OwG B (fun w T => OwTI w T (.slice Z1 cs'.length z1) (.slice Z2 pl'.length z2) (.slice Z3 ds'.length z3) (.slice AR rs.length cR) cs' pl' ds' rs) 1 gh w
 | 7 => ∃ (Z1 Z2 Z3 AR : Option Addr) (z1 z2 z3 cR : Nat), v = .slice AR rs.length cR ∧ OwG B (fun w T => OwTI w T (.slice Z1 cs'.length z1) (.slice Z2 pl'.length z2) (.slice Z3 ds'.length z3) (.slice AR rs.length cR) cs' pl' ds' rs) 1 gh w
 | 8 => ∃ xb, v = .pointer (some ⟨xb, 0, none⟩) ∧ B ≤ xb ∧ Loc w xb [.int .i64 0, .slice none 0 0, .slice none 0 0, .slice none 0 0, .int .i64 0] ∧ gh xb = 2 ∧ xb < w.heap.size
 | _ => True
def apBefore (k : Nat) : List Nat := if k = 10 then [9] else if k = 11 then [10, 9] else if k = 17 then [15, 11, 10, 9] else if k = 18 then [17] else []
def apNeed (k : Nat) : List Nat := if k = 1 then [0] else if k = 2 then [1] else if k = 3 then [2] else if k = 4 then [3] else if k = 5 then [4] else if k = 6 then [5, 4] else if k = 7 then [4] else if k = 8 then [7, 4] else if k = 9 then [6, 8, 4] else if k = 10 then [4, 9] else if k = 11 then [10] else if k = 12 then [11] else if k = 13 then [11] else if k = 14 then [11] else if k = 15 then [13, 14, 11] else if k = 16 then [11] else if k = 17 then [15, 16, 11] else if k = 18 then [12, 17, 11] else if k = 19 then [11, 18] else []
def apR (k : Nat) (_ : Nat → Nat) (w w' : World) : Prop := k = 17 ∨ Below w.heap.size w w'
def par (B : Nat) (n' m' : Int) (X1 X2 X3 Z1 Z2 Z3 AN AF AR : Option Addr) (x1 x2 x3 z1 z2 z3 cN cF cR : Nat) (cs' : List RCross) (pl' : List RPl) (ds' ns fs rs : List Int) (tl : List ByteArray) (i : Nat) (v : Value) (_ : Nat → Nat) (w : World) : Prop :=
 match i with
 | 0 => v = .agg #[.int .i64 n', .slice X1 cs'.length x1, .slice X2 pl'.length x2, .slice X3 ds'.length x3, .int .i64 m']
 | 1 => ∃ (Ao : Option Addr) (co : Nat), v = .slice Ao tl.length co
 | 2 => v = .int .i64 tl.length
 | 3 => v = .bool true
 | 4 => v = .bool true
 | 5 => v = .agg #[.int .i64 n', .slice X1 cs'.length x1, .slice X2 pl'.length x2, .slice X3 ds'.length x3, .int .i64 m']
 | 6 => ∃ (Ao : Option Addr) (co : Nat), v = .slice Ao tl.length co ∧ RdL cStr 1 w (.slice Ao tl.length co) tl
 | 7 => v = .agg #[.int .i64 n', .slice Z1 cs'.length z1, .slice Z2 pl'.length z2, .slice Z3 ds'.length z3, .int .i64 m']
 | 8 => ∃ (Ao : Option Addr) (co : Nat), v = .slice Ao tl.length co ∧ RdL cStr 1 w (.slice Ao tl.length co) tl
 | 9 => v = .bool true
 | 10 => v = .bool true
 | 11 => v = .bool true
 | 12 => v = .slice AN ns.length cN
 | 13 => ∃ g, v = .slice (some ⟨g, 0, none⟩) 0 0 ∧ w.ownsRow B 3 1 (.slice (some ⟨g, 0, none⟩) 0 0) 0 []
 | 14 => v = .slice AF fs.length cF
 | 15 => ∃ (Ao : Option Addr) (co : Nat), v = .slice Ao fs.length co ∧ w.ownsRow B 3 1 (.slice Ao fs.length co) fs.length (fs.flatMap cInt)
 | 16 => v = .slice AR rs.length cR
 | 17 => ∃ (Ao : Option Addr) (co : Nat), v = .slice Ao (fs.length + rs.length) co ∧ w.ownsRow B 3 1 (.slice Ao (fs.length + rs.length) co) (fs.length + rs.length) (fs.flatMap cInt ++ rs.flatMap cInt)
 | 18 => v = .bool true
 | 19 => v = .bool true
 | _ => True
set_option maxHeartbeats 16000000 in
set_option maxRecDepth 100000 in
theorem lawFnActParts_any (A : Option Addr) (c : Nat) (bs : List Int) (w : World) (h : RdL cU8 1 w (.slice A bs.length c) bs) (hby : ∀ x ∈ bs, 0 ≤ x ∧ x ≤ 255) (ht : TabOk w) :
  Calls Tryz.prog 3 #[.slice A bs.length c] w fun e w' => e = .returned (.bool true) ∧ Below w.heap.size w w' := by
 obtain ⟨iI, hiI, hzI0, hzI1, hzI2⟩ := info_parts infoInt
 have Hby := Lib.hid hby
 clear hby
 go_enter Tryz.func3, Tryz.ntmps3
 go_wp2_with (go_at_call 4; refine twoB (big_any _ _ _ _) (fun wb hc hb => ?_) (fun wb hc hb => ?_))
 ·go_ret
  exact ⟨rfl, hb⟩
 have hlen : bs.length ≤ 1048576 := by have := hc.out; simp at this; omega
 have Hlen := Lib.hid hlen
 clear hc
 refine (drawActs_any A c bs wb (h.below hb) Hby.out hlen).mono ?_
 rintro e w1 ⟨n, m, cs, pl, ds, x1, x2, x3, va, acts, rfl, hrt, hra, hth, h13, hacts, hb1⟩
 obtain ⟨⟨A1, n1, rfl⟩, ⟨A2, n2, rfl⟩, ⟨A3, n3, rfl⟩⟩ := hrt.forms
 obtain ⟨A5, n5, rfl, hn5, hm5⟩ := hra.form
 have hbw : Below w.heap.size w w1 := bl_trans hb hb1
 have hcode := h.below hbw
 clear hacts hb hb1 h hlen
 go_upto_region 4 with (fail)
 have hal : Below w1.heap.size w1 (w1.alloc (.cells #[.int .i64 n, .slice A1 cs.length n1, .slice A2 pl.length n2, .slice A3 ds.length n3, .int .i64 m] 30)) := (Below.refl _ _).alloc (Nat.le_refl _) _
 have L1 : Loc (w1.alloc (.cells #[.int .i64 n, .slice A1 cs.length n1, .slice A2 pl.length n2, .slice A3 ds.length n3, .int .i64 m] 30)) w1.heap.size [.int .i64 n, .slice A1 cs.length n1, .slice A2 pl.length n2, .slice A3 ds.length n3, .int .i64 m] := Loc.new w1 #[.int .i64 n, .slice A1 cs.length n1, .slice A2 pl.length n2, .slice A3 ds.length n3, .int .i64 m] 30
 replace hrt := hrt.below hal
 replace hra := hra.below hal
 replace hcode := hcode.below hal
 replace hbw := bl_trans hbw hal
 obtain ⟨g1, hg1⟩ : ∃ g, w1.heap.size = g := ⟨_, rfl⟩
 rw [hg1] at L1
 generalize w1.alloc (.cells #[.int .i64 n, .slice A1 cs.length n1, .slice A2 pl.length n2, .slice A3 ds.length n3, .int .i64 m] 30) = W1 at *
 (try rw [hg1])
 clear hg1 hal
 go_wp2_with fail
 refine (drawPlaces_any A c bs W1 hcode Hby.out Hlen.out).mono ?_
 rintro e w2 ⟨vp, p, rfl, hp, hp12, hpb, hb2⟩
 replace L1 := L1.below hb2
 replace hrt := hrt.below hb2
 replace hra := hra.below hb2
 replace hcode := hcode.below hb2
 replace hbw := bl_trans hbw hb2
 clear hb2 hcode Hby Hlen
 have hp1 : 0 < p.length := by rw [hp12]; decide
 obtain ⟨Ap, np, rfl, _, _⟩ := hp.form
 obtain ⟨gp, op, rfl, hgp, hcp⟩ := hp.cell (k := 0) cInt_len (by omega) hp1
 have q0 := hcp 0 _ rfl
 simp only [Nat.add_zero, Nat.mul_one] at q0
 clear hcp
 have hp0 := hpb _ (List.getElem_mem (show 0 < p.length by omega))
 generalize p[0]'(by omega) = x0 at *
 have hz1 : (((acts.length : Int) + 1) == 0) = false := by rw [beq_eq_false_iff_ne]; omega
 have hw1 : IntKind.i64.wrap ((acts.length : Int) + 1) = (acts.length : Int) + 1 := IntWalk.i64_in _ (by omega)
 obtain ⟨k, hk⟩ : ∃ k : Nat, x0.tmod ((acts.length : Int) + 1) = (k : Int) := ⟨(x0 % ((acts.length : Int) + 1)).toNat, by rw [Int.tmod_eq_emod_of_nonneg hp0.1]; have := Int.emod_nonneg x0 (show (acts.length : Int) + 1 ≠ 0 by omega); omega⟩
 have hkn : k ≤ acts.length := by have := Int.emod_lt_of_pos x0 (show (0 : Int) < (acts.length : Int) + 1 by omega); rw [Int.tmod_eq_emod_of_nonneg hp0.1] at hk; omega
 have hk' : x0 % ((acts.length : Int) + 1) = (k : Int) := by rw [← hk, Int.tmod_eq_emod_of_nonneg hp0.1]
 go_upto_region 6 with (fail)
 (try rw [hk])
 (try rw [hk'])
 clear hk hk' hz1 hw1 q0 hp0 hpb hp hp12 hp1
 have HK : Hid (k ≤ acts.length) := hkn
 have hthok : (Th.mk n m cs pl ds).ok = true := hth
 have hsz : szTheatre cs pl ds ≤ 1048576 := by have := theatreB_sz hth; omega
 have hpk := acts_parts hthok (show acts.length ≤ 40 by omega) k
 have hl0 := (actsF_sz (Th.mk n m cs pl ds) acts).2
 have hl1 := (actsF_sz (Th.mk n m cs pl ds) (acts.take k)).2
 have hl2 := (actsF_sz (actsF (Th.mk n m cs pl ds) (acts.take k)).1 (acts.drop k)).2
 have hs1 := (actsF_sz (Th.mk n m cs pl ds) (acts.take k)).1
 have hxok := (acts_ok hthok (show acts.length ≤ 40 by omega)).1
 have R1 := fun W hr ha => implRunActs_any n m (.slice A1 cs.length n1) (.slice A2 pl.length n2) (.slice A3 ds.length n3) (.slice A5 acts.length n5) cs pl ds acts W hr ha hsz
 have R2 := fun va W hr ha => implRunActs_any n m (.slice A1 cs.length n1) (.slice A2 pl.length n2) (.slice A3 ds.length n3) va cs pl ds (acts.take k) W hr ha hsz
 have hsT : (Th.mk n m cs pl ds).sz ≤ 1048576 := hsz
 have R3 := fun v1 v2 v3 va W hr ha => implRunActs_any (actsF (Th.mk n m cs pl ds) (acts.take k)).1.n (actsF (Th.mk n m cs pl ds) (acts.take k)).1.m v1 v2 v3 va (actsF (Th.mk n m cs pl ds) (acts.take k)).1.cs (actsF (Th.mk n m cs pl ds) (acts.take k)).1.pl (actsF (Th.mk n m cs pl ds) (acts.take k)).1.ds (acts.drop k) W hr ha (by show (actsF (Th.mk n m cs pl ds) (acts.take k)).1.sz ≤ 1048576; omega)
 rw [← hpk.1] at hxok
 have hpk2 := hpk.2
 have hpk1 := hpk.1
 clear hpk hs1 hsT
 generalize actsF (Th.mk n m cs pl ds) acts = r0 at *
 generalize actsF (Th.mk n m cs pl ds) (acts.take k) = r1 at *
 obtain ⟨⟨yn, ym, ycs, ypl, yds⟩, fs⟩ := r1
 dsimp only at *
 generalize actsF (Th.mk yn ym ycs ypl yds) (acts.drop k) = r2 at *
 obtain ⟨⟨n', m', cs', pl', ds'⟩, ns⟩ := r0
 obtain ⟨t2, rs⟩ := r2
 dsimp only at *
 subst hpk1
 have HR1 : Hid (∀ W, RdTheatre W (.slice A1 cs.length n1) (.slice A2 pl.length n2) (.slice A3 ds.length n3) cs pl ds → RdL cAct 3 W (.slice A5 acts.length n5) acts → Calls Tryz.prog 7 #[.agg #[.int .i64 n, .slice A1 cs.length n1, .slice A2 pl.length n2, .slice A3 ds.length n3, .int .i64 m], .slice A5 acts.length n5] W (RetTI W.heap.size n' m' cs' pl' ds' ns W)) := R1
 have HR2 : Hid (∀ va W, RdTheatre W (.slice A1 cs.length n1) (.slice A2 pl.length n2) (.slice A3 ds.length n3) cs pl ds → RdL cAct 3 W va (acts.take k) → Calls Tryz.prog 7 #[.agg #[.int .i64 n, .slice A1 cs.length n1, .slice A2 pl.length n2, .slice A3 ds.length n3, .int .i64 m], va] W (RetTI W.heap.size yn ym ycs ypl yds fs W)) := R2
 have HR3' : Hid (∀ v1 v2 v3 va W, RdTheatre W v1 v2 v3 ycs ypl yds → RdL cAct 3 W va (acts.drop k) → Calls Tryz.prog 7 #[.agg #[.int .i64 yn, v1, v2, v3, .int .i64 ym], va] W (RetTI W.heap.size n' m' cs' pl' ds' rs W)) := R3
 clear R1 R2 R3 hth hthok hsz
 have hft : theatreB n' m' cs' pl' ds' = true := hxok
 have hfl := fmtL_len n' m' cs' pl' ds'
 rw [← fmtT_t hft] at hfl
 have F1 := fun v1 v2 v3 W hr hW => implFormatTheatre_any n' m' v1 v2 v3 cs' pl' ds' W hr hW
 obtain ⟨tl, htl⟩ : ∃ tl, fmtT n' m' cs' pl' ds' = tl := ⟨_, rfl⟩
 rw [htl] at F1 hfl
 have HF : Hid (∀ v1 v2 v3 W, RdTheatre W v1 v2 v3 cs' pl' ds' → TabOk W → Calls Tryz.prog 8 #[.agg #[.int .i64 n', v1, v2, v3, .int .i64 m']] W fun e w' => ∃ v, e = .returned v ∧ w'.ownsRow W.heap.size 9 1 v tl.length (tl.flatMap cStr) ∧ Below W.heap.size W w') := F1
 have HSI : Hid (∀ v v' W, RdL cInt 1 W v ns → RdL cInt 1 W v' ns → Calls Tryz.prog 10 #[v, v'] W fun e w' => e = .returned (.bool true) ∧ Below W.heap.size W w') := fun v v' W h1 h2 => by have := sameInts_any v v' ns ns W h1 h2; rw [decide_eq_true (rfl : ns = ns)] at this; exact this
 have htl0 : 0 < tl.length := by omega
 clear F1 htl hfl hft hxok
 have HNS : Hid (∀ (v : Value) (W : World), RdS W 1 v (fs.length + rs.length) (fs.flatMap cInt ++ rs.flatMap cInt) → RdL cInt 1 W v ns) := fun v W h => by rw [← hpk2]; unfold RdL; rw [List.length_append, List.flatMap_append]; exact h
 clear hpk2
 have b0 := (L1 0 _ rfl).1
 have b1 := (L1 1 _ rfl).1
 have b2 := (L1 2 _ rfl).1
 have b3 := (L1 3 _ rfl).1
 have b4 := (L1 4 _ rfl).1
 go_wp2_with fail
 refine (HR1.out _ hrt hra).mono ?_
 rintro e w3 ⟨y1, y2, y3, S, vn, SN, rfl, ow, fr, ol, frn, hdj, hb3⟩
 have hrx := ow.rd
 have hns : RdL cInt 1 w3 vn ns := RdS.of_own ol.1
 obtain ⟨⟨X1, x1, rfl⟩, ⟨X2, x2, rfl⟩, ⟨X3, x3, rfl⟩⟩ := hrx.forms
 obtain ⟨AN, cN, rfl, _, _⟩ := hns.form
 clear b0 b1 b2 b3 b4 ow fr ol frn hdj HR1
 replace L1 := L1.below hb3
 replace hrt := hrt.below hb3
 replace hra := hra.below hb3
 replace hbw := bl_trans hbw hb3
 clear hb3
 go_upto_region 7 with (fail)
 have hal : Below w3.heap.size w3 (w3.alloc (.cells #[.int .i64 n', .slice X1 cs'.length x1, .slice X2 pl'.length x2, .slice X3 ds'.length x3, .int .i64 m'] 30)) := (Below.refl _ _).alloc (Nat.le_refl _) _
 have LX : Loc (w3.alloc (.cells #[.int .i64 n', .slice X1 cs'.length x1, .slice X2 pl'.length x2, .slice X3 ds'.length x3, .int .i64 m'] 30)) w3.heap.size [.int .i64 n', .slice X1 cs'.length x1, .slice X2 pl'.length x2, .slice X3 ds'.length x3, .int .i64 m'] := Loc.new w3 #[.int .i64 n', .slice X1 cs'.length x1, .slice X2 pl'.length x2, .slice X3 ds'.length x3, .int .i64 m'] 30
 replace L1 := L1.below hal
 replace hrt := hrt.below hal
 replace hra := hra.below hal
 replace hrx := hrx.below hal
 replace hns := hns.below hal
 replace hbw := bl_trans hbw hal
 obtain ⟨xb0, hxb0⟩ : ∃ g, w3.heap.size = g := ⟨_, rfl⟩
 rw [hxb0] at LX
 generalize w3.alloc (.cells #[.int .i64 n', .slice X1 cs'.length x1, .slice X2 pl'.length x2, .slice X3 ds'.length x3, .int .i64 m'] 30) = wr at *
 (try rw [hxb0])
 clear hxb0 hal
 have i0 : (0 : Int) ≤ (k : Int) := by omega
 have i1 : ¬ (k : Int) < 0 := by omega
 have i2 : (k : Int) ≤ (n5 : Int) := by omega
 have i3 : (k : Int).toNat = k := by omega
 have i4 : ¬ (n5 : Int) < (k : Int) := by omega
 go_cut [9, 10] (fun s9 s10 wx => ∃ (xb : Nat) (Y1 Y2 Y3 AF : Option Addr) (k1 k2 k3 cF : Nat), s9 = .pointer (some ⟨xb, 0, none⟩) ∧ s10 = .slice AF fs.length cF ∧ Loc wx xb [.int .i64 yn, .slice Y1 ycs.length k1, .slice Y2 ypl.length k2, .slice Y3 yds.length k3, .int .i64 ym] ∧ RdTheatre wx (.slice Y1 ycs.length k1) (.slice Y2 ypl.length k2) (.slice Y3 yds.length k3) ycs ypl yds ∧ RdL cInt 1 wx (.slice AF fs.length cF) fs ∧ Below wr.heap.size wr wx)
 case first =>
  refine region_pendL (n := 71) 9 7 (by kernel_rfl) rfl (by kernel_rfl) [] (by kernel_rfl) (fun _ => false) (fun w' => Below wr.heap.size wr w') (fun i => if i = 8 then 2 else 1) (pap wr.heap.size n m yn ym A1 A2 A3 A5 n1 n2 n3 n5 k cs ycs pl ypl ds yds fs acts) trivial (Below.refl _ _).drew ?_ ?_ ?_ ?_
  ·intro i v gh gh' w1 w2 hp hJ hb' hg
   match i, hp with
   | 0, hp => exact hp
   | 1, hp => exact hp
   | 2, hp => exact hp
   | 3, hp => exact (by obtain ⟨A6, c6, h1, h2⟩ := hp; exact ⟨A6, c6, h1, h2.below hb'⟩)
   | 4, hp => exact (by obtain ⟨Y1, Y2, Y3, AF, k1, k2, k3, cF, h1, h2⟩ := hp; exact ⟨Y1, Y2, Y3, AF, k1, k2, k3, cF, h1, h2.keep (fun S h => h.below hb') hb' hg⟩)
   | 5, hp => exact (by obtain ⟨Y1, Y2, Y3, AF, k1, k2, k3, cF, h1, h2⟩ := hp; exact ⟨Y1, Y2, Y3, AF, k1, k2, k3, cF, h1, h2.keep (fun S h => h.below hb') hb' hg⟩)
   | 6, hp => exact (by obtain ⟨Y1, Y2, Y3, AF, k1, k2, k3, cF, h1, h2⟩ := hp; exact ⟨Y1, Y2, Y3, AF, k1, k2, k3, cF, h1, h2.keep (fun S h => h.below hb') hb' hg⟩)
   | 7, hp => exact (by obtain ⟨Y1, Y2, Y3, AF, k1, k2, k3, cF, h1, h2⟩ := hp; exact ⟨Y1, Y2, Y3, AF, k1, k2, k3, cF, h1, h2.keep (fun S h => h.below hb') hb' hg⟩)
   | 8, hp => exact (by obtain ⟨xb, h1, h2, h3, h4, h5⟩ := hp; exact ⟨xb, h1, h2, h3.below hb', (hg _ h5).trans h4, Nat.lt_of_lt_of_le h5 hb'.size⟩)
   | _ + 9, _ => trivial
  ·refine ⟨?_, ?_, ?_, ?_, ?_, ?_, ?_, ?_, ?_, trivial⟩
   ·intro a gh w5 hag hJ hd
    dsimp only [bareO]
    have ag3 : a.tmps.getD 3 undef = .pointer (some ⟨g1, 0, none⟩) := hag.kept 3 (by kernel_rfl)
    clear hag
    have k0 := ((L1.below hJ) 0 _ rfl).1
    have k1 := ((L1.below hJ) 1 _ rfl).1
    have k2 := ((L1.below hJ) 2 _ rfl).1
    have k3 := ((L1.below hJ) 3 _ rfl).1
    have k4 := ((L1.below hJ) 4 _ rfl).1
    go_wp2_with fail
    exact ⟨rfl, _, rfl, rfl, hJ, Below.refl _ _⟩
   ·intro a gh w5 hag hJ hd
    dsimp only [bareO]
    have ag4 : a.tmps.getD 4 undef = .slice A5 acts.length n5 := hag.kept 4 (by kernel_rfl)
    clear hag
    go_wp2_with fail
    exact ⟨rfl, _, rfl, rfl, hJ, Below.refl _ _⟩
   ·intro a gh w5 hag hJ hd
    dsimp only [bareO]
    have ag6 : a.tmps.getD 6 undef = .int .i64 k := hag.kept 6 (by kernel_rfl)
    clear hag
    go_wp2_with fail
    exact ⟨rfl, _, rfl, rfl, hJ, Below.refl _ _⟩
   ·intro a gh w5 hag hJ hd
    dsimp only [bareO]
    clear hag
    have e0 : a.tmps.getD 37 undef = .slice A5 acts.length n5 := hd 1 (by kernel_rfl) _ rfl
    have e1 : a.tmps.getD 38 undef = .int .i64 k := hd 2 (by kernel_rfl) _ rfl
    go_wp2_with fail
    exact ⟨rfl, _, rfl, ⟨A5, n5, rfl, rdL_takeN cAct_len (hra.below hJ) HK.out⟩, hJ, Below.refl _ _⟩
   ·intro a gh w5 hag hJ hd
    dsimp only [bareO]
    clear hag
    have e0 : a.tmps.getD 36 undef = .agg #[.int .i64 n, .slice A1 cs.length n1, .slice A2 pl.length n2, .slice A3 ds.length n3, .int .i64 m] := hd 0 (by kernel_rfl) _ rfl
    obtain ⟨A6, c6, e1, h6⟩ : ∃ (A6 : Option Addr) (c6 : Nat), a.tmps.getD 39 undef = .slice A6 k c6 ∧ RdL cAct 3 w5 (.slice A6 k c6) (acts.take k) := hd 3 (by kernel_rfl) _ rfl
    go_wp2_with fail
    refine (HR2.out _ w5 (hrt.below hJ) h6).mono ?_
    rintro e w6 ⟨y1, y2, y3, S9, vq, SN, rfl, ow9, fr9, ol9, frn, hdj, hb9⟩
    obtain ⟨⟨G1, p1, rfl⟩, ⟨G2, p2, rfl⟩, ⟨G3, p3, rfl⟩⟩ := ow9.rd.forms
    obtain ⟨G4, p4, rfl, _, _⟩ := (show RdL cInt 1 w6 vq _ from RdS.of_own ol9.1).form
    dsimp only at *
    go_wp2_with fail
    exact ⟨rfl, _, rfl, ⟨_, _, _, _, _, _, _, _, rfl, OwG.of_fresh ⟨_, _, rfl, ow9, ol9⟩ (fresh_join fr9 frn hdj) hJ.size⟩, bl_trans hJ hb9, hb9⟩
   ·intro a gh w5 hag hJ hd
    dsimp only [bareO]
    clear hag
    obtain ⟨Y1, Y2, Y3, AF, k1, k2, k3, cF, e0, h2⟩ : ∃ (Y1 Y2 Y3 AF : Option Addr) (k1 k2 k3 cF : Nat), a.tmps.getD 40 undef = .tuple #[.agg #[.int .i64 yn, .slice Y1 ycs.length k1, .slice Y2 ypl.length k2, .slice Y3 yds.length k3, .int .i64 ym], .slice AF fs.length cF] ∧ OwG wr.heap.size (fun w T => OwTI w T (.slice Y1 ycs.length k1) (.slice Y2 ypl.length k2) (.slice Y3 yds.length k3) (.slice AF fs.length cF) ycs ypl yds fs) 1 gh w5 := hd 4 (by kernel_rfl) _ rfl
    go_wp2_with fail
    exact ⟨rfl, _, rfl, ⟨_, _, _, _, _, _, _, _, rfl, h2.same _⟩, hJ, Below.refl _ _⟩
   ·intro a gh w5 hag hJ hd
    dsimp only [bareO]
    clear hag
    obtain ⟨Y1, Y2, Y3, AF, k1, k2, k3, cF, e0, h2⟩ : ∃ (Y1 Y2 Y3 AF : Option Addr) (k1 k2 k3 cF : Nat), a.tmps.getD 35 undef = .tuple #[.agg #[.int .i64 yn, .slice Y1 ycs.length k1, .slice Y2 ypl.length k2, .slice Y3 yds.length k3, .int .i64 ym], .slice AF fs.length cF] ∧ OwG wr.heap.size (fun w T => OwTI w T (.slice Y1 ycs.length k1) (.slice Y2 ypl.length k2) (.slice Y3 yds.length k3) (.slice AF fs.length cF) ycs ypl yds fs) 1 gh w5 := hd 5 (by kernel_rfl) _ rfl
    go_wp2_with fail
    exact ⟨rfl, _, rfl, ⟨_, _, _, _, _, _, _, _, rfl, h2.same _⟩, hJ, Below.refl _ _⟩
   ·intro a gh w5 hag hJ hd
    dsimp only [bareO]
    clear hag
    obtain ⟨Y1, Y2, Y3, AF, k1, k2, k3, cF, e0, h2⟩ : ∃ (Y1 Y2 Y3 AF : Option Addr) (k1 k2 k3 cF : Nat), a.tmps.getD 35 undef = .tuple #[.agg #[.int .i64 yn, .slice Y1 ycs.length k1, .slice Y2 ypl.length k2, .slice Y3 yds.length k3, .int .i64 ym], .slice AF fs.length cF] ∧ OwG wr.heap.size (fun w T => OwTI w T (.slice Y1 ycs.length k1) (.slice Y2 ypl.length k2) (.slice Y3 yds.length k3) (.slice AF fs.length cF) ycs ypl yds fs) 1 gh w5 := hd 5 (by kernel_rfl) _ rfl
    go_wp2_with fail
    exact ⟨rfl, _, rfl, ⟨_, _, _, _, _, _, _, _, rfl, h2.same _⟩, hJ, Below.refl _ _⟩
   ·intro a gh w5 hag hJ hd
    dsimp only [bareO]
    clear hag
    go_wp2_with fail
    exact ⟨rfl, _, rfl, ⟨w5.heap.size, rfl, hJ.size, Loc.new w5 #[.int .i64 0, .slice none 0 0, .slice none 0 0, .slice none 0 0, .int .i64 0] 30, if_neg (Nat.lt_irrefl _), by simp⟩, hJ.alloc hJ.size _, (Below.refl _ _).alloc (Nat.le_refl _) _⟩
  ·intro a gh w5 hag hJ hd
   have ag0 := hag.kept 0 (by kernel_rfl)
   have ag1 := hag.kept 1 (by kernel_rfl)
   have ag2 := hag.kept 2 (by kernel_rfl)
   have ag3 : a.tmps.getD 3 undef = .pointer (some ⟨g1, 0, none⟩) := hag.kept 3 (by kernel_rfl)
   have ag4 : a.tmps.getD 4 undef = .slice A5 acts.length n5 := hag.kept 4 (by kernel_rfl)
   have ag5 := hag.kept 5 (by kernel_rfl)
   have ag6 : a.tmps.getD 6 undef = .int .i64 k := hag.kept 6 (by kernel_rfl)
   have ag7 := hag.kept 7 (by kernel_rfl)
   have ag8 := hag.kept 8 (by kernel_rfl)
   have ag11 := hag.kept 11 (by kernel_rfl)
   have ag12 := hag.kept 12 (by kernel_rfl)
   rw [act71ap hag.size hag.defers]
   clear hag
   obtain ⟨Y1, Y2, Y3, AF, k1, k2, k3, cF, e0, h2⟩ : ∃ (Y1 Y2 Y3 AF : Option Addr) (k1 k2 k3 cF : Nat), a.tmps.getD 41 undef = .agg #[.int .i64 yn, .slice Y1 ycs.length k1, .slice Y2 ypl.length k2, .slice Y3 yds.length k3, .int .i64 ym] ∧ OwG wr.heap.size (fun w T => OwTI w T (.slice Y1 ycs.length k1) (.slice Y2 ypl.length k2) (.slice Y3 yds.length k3) (.slice AF fs.length cF) ycs ypl yds fs) 1 gh w5 := hd 6 (by kernel_rfl) _ rfl
   obtain ⟨xb, e14, hxb, Lx, hgx, hxlt⟩ : ∃ xb, a.tmps.getD 9 undef = .pointer (some ⟨xb, 0, none⟩) ∧ wr.heap.size ≤ xb ∧ Loc w5 xb [.int .i64 0, .slice none 0 0, .slice none 0 0, .slice none 0 0, .int .i64 0] ∧ gh xb = 2 ∧ xb < w5.heap.size := hd 8 (by kernel_rfl) _ rfl
   obtain ⟨G1, G2, G3, AF', p1, p2, p3, cF', e15, h3⟩ : ∃ (G1 G2 G3 AF' : Option Addr) (p1 p2 p3 cF' : Nat), a.tmps.getD 42 undef = .slice AF' fs.length cF' ∧ OwG wr.heap.size (fun w T => OwTI w T (.slice G1 ycs.length p1) (.slice G2 ypl.length p2) (.slice G3 yds.length p3) (.slice AF' fs.length cF') ycs ypl yds fs) 1 gh w5 := hd 7 (by kernel_rfl) _ rfl
   rw [ag0, ag1, ag2, ag3, ag4, ag5, ag6, ag7, ag8, ag11, ag12, e0, e14, e15]
   change wpList _ _ _ [_, _] _ _
   obtain ⟨S9, ow9, hnd9, hcl9⟩ := h2
   obtain ⟨S8, ow8, hnd8, hcl8⟩ := h3
   have hxS : ∀ b ∈ S9, b ∉ [xb] := fun b hb hb' => by have h1 := (hcl9 b hb).2; simp at hb'; subst hb'; omega
   have hxT : ∀ b ∈ S8, b ∉ [xb] := fun b hb hb' => by have h1 := (hcl8 b hb).2; simp at hb'; subst hb'; omega
   have HX := Lib.hid hxS
   have HY := Lib.hid hxT
   have HOW := Lib.hid ow9
   have HOV := Lib.hid ow8
   have x0 := (Lx 0 _ rfl).1
   have x1 := (Lx 1 _ rfl).1
   have x2 := (Lx 2 _ rfl).1
   have x3 := (Lx 3 _ rfl).1
   have x4 := (Lx 4 _ rfl).1
   have f0 := (Lx 0 _ rfl).2
   have f1 := (Lx 1 _ rfl).2
   have f2 := (Lx 2 _ rfl).2
   have f3 := (Lx 3 _ rfl).2
   have f4 := (Lx 4 _ rfl).2
   clear hd hcl9 ow9 hxS hcl8 ow8 hxT hgx hnd9 hnd8
   go_wp2_with fail
   go_meet
   case rel =>
    have hch : Chg [xb] w5 (((((w5.setCell ⟨xb, 0, none⟩ (.int .i64 yn)).setCell ⟨xb, 1, none⟩ (.slice Y1 ycs.length k1)).setCell ⟨xb, 2, none⟩ (.slice Y2 ypl.length k2)).setCell ⟨xb, 3, none⟩ (.slice Y3 yds.length k3)).setCell ⟨xb, 4, none⟩ (.int .i64 ym)) := by repeat' (with_reducible first | exact Chg.refl _ _ | refine qC ?_)
    exact ⟨xb, Y1, Y2, Y3, AF', k1, k2, k3, cF', rfl, rfl, (((((Lx.set (i := 0) (u := .int .i64 yn) (v := .int .i64 0) rfl).set (i := 1) (u := .slice Y1 ycs.length k1) (v := .slice none 0 0) rfl).set (i := 2) (u := .slice Y2 ypl.length k2) (v := .slice none 0 0) rfl).set (i := 3) (u := .slice Y3 yds.length k3) (v := .slice none 0 0) rfl).set (i := 4) (u := .int .i64 ym) (v := .int .i64 0) rfl), (HOW.out.chg hch HX.out).rd, (HOV.out.chg hch HY.out).nums, Below.chg hJ hch hJ.size (by simp; omega)⟩
  ·intro a gh w5 hag hJ hd
   have ag0 := hag.kept 0 (by kernel_rfl)
   have ag1 := hag.kept 1 (by kernel_rfl)
   have ag2 := hag.kept 2 (by kernel_rfl)
   have ag3 : a.tmps.getD 3 undef = .pointer (some ⟨g1, 0, none⟩) := hag.kept 3 (by kernel_rfl)
   have ag4 : a.tmps.getD 4 undef = .slice A5 acts.length n5 := hag.kept 4 (by kernel_rfl)
   have ag5 := hag.kept 5 (by kernel_rfl)
   have ag6 : a.tmps.getD 6 undef = .int .i64 k := hag.kept 6 (by kernel_rfl)
   have ag7 := hag.kept 7 (by kernel_rfl)
   have ag8 := hag.kept 8 (by kernel_rfl)
   have ag11 := hag.kept 11 (by kernel_rfl)
   have ag12 := hag.kept 12 (by kernel_rfl)
   rw [act71ap hag.size hag.defers]
   clear hag
   obtain ⟨Y1, Y2, Y3, AF, k1, k2, k3, cF, e0, h2⟩ : ∃ (Y1 Y2 Y3 AF : Option Addr) (k1 k2 k3 cF : Nat), a.tmps.getD 41 undef = .agg #[.int .i64 yn, .slice Y1 ycs.length k1, .slice Y2 ypl.length k2, .slice Y3 yds.length k3, .int .i64 ym] ∧ OwG wr.heap.size (fun w T => OwTI w T (.slice Y1 ycs.length k1) (.slice Y2 ypl.length k2) (.slice Y3 yds.length k3) (.slice AF fs.length cF) ycs ypl yds fs) 1 gh w5 := hd 6 (by kernel_rfl) (by decide) _ rfl
   obtain ⟨xb, e14, hxb, Lx, hgx, hxlt⟩ : ∃ xb, a.tmps.getD 9 undef = .pointer (some ⟨xb, 0, none⟩) ∧ wr.heap.size ≤ xb ∧ Loc w5 xb [.int .i64 0, .slice none 0 0, .slice none 0 0, .slice none 0 0, .int .i64 0] ∧ gh xb = 2 ∧ xb < w5.heap.size := hd 8 (by kernel_rfl) (by decide) _ rfl
   obtain ⟨G1, G2, G3, AF', p1, p2, p3, cF', e15, h3⟩ : ∃ (G1 G2 G3 AF' : Option Addr) (p1 p2 p3 cF' : Nat), a.tmps.getD 35 undef = .tuple #[.agg #[.int .i64 yn, .slice G1 ycs.length p1, .slice G2 ypl.length p2, .slice G3 yds.length p3, .int .i64 ym], .slice AF' fs.length cF'] ∧ OwG wr.heap.size (fun w T => OwTI w T (.slice G1 ycs.length p1) (.slice G2 ypl.length p2) (.slice G3 yds.length p3) (.slice AF' fs.length cF') ycs ypl yds fs) 1 gh w5 := hd 5 (by kernel_rfl) (by decide) _ rfl
   rw [ag0, ag1, ag2, ag3, ag4, ag5, ag6, ag7, ag8, ag11, ag12, e0, e14, e15]
   change wpList _ _ _ [_, _, _] _ _
   obtain ⟨S9, ow9, hnd9, hcl9⟩ := h2
   obtain ⟨S8, ow8, hnd8, hcl8⟩ := h3
   have hxS : ∀ b ∈ S9, b ∉ [xb] := fun b hb hb' => by have h1 := (hcl9 b hb).2; simp at hb'; subst hb'; omega
   have hxT : ∀ b ∈ S8, b ∉ [xb] := fun b hb hb' => by have h1 := (hcl8 b hb).2; simp at hb'; subst hb'; omega
   have HX := Lib.hid hxS
   have HY := Lib.hid hxT
   have HOW := Lib.hid ow9
   have HOV := Lib.hid ow8
   have x0 := (Lx 0 _ rfl).1
   have x1 := (Lx 1 _ rfl).1
   have x2 := (Lx 2 _ rfl).1
   have x3 := (Lx 3 _ rfl).1
   have x4 := (Lx 4 _ rfl).1
   have f0 := (Lx 0 _ rfl).2
   have f1 := (Lx 1 _ rfl).2
   have f2 := (Lx 2 _ rfl).2
   have f3 := (Lx 3 _ rfl).2
   have f4 := (Lx 4 _ rfl).2
   clear hd hcl9 ow9 hxS hcl8 ow8 hxT hgx hnd9 hnd8
   go_wp2_with fail
   go_meet
   case rel =>
    have hch : Chg [xb] w5 (((((w5.setCell ⟨xb, 0, none⟩ (.int .i64 yn)).setCell ⟨xb, 1, none⟩ (.slice Y1 ycs.length k1)).setCell ⟨xb, 2, none⟩ (.slice Y2 ypl.length k2)).setCell ⟨xb, 3, none⟩ (.slice Y3 yds.length k3)).setCell ⟨xb, 4, none⟩ (.int .i64 ym)) := by repeat' (with_reducible first | exact Chg.refl _ _ | refine qC ?_)
    exact ⟨xb, Y1, Y2, Y3, AF', k1, k2, k3, cF', rfl, rfl, (((((Lx.set (i := 0) (u := .int .i64 yn) (v := .int .i64 0) rfl).set (i := 1) (u := .slice Y1 ycs.length k1) (v := .slice none 0 0) rfl).set (i := 2) (u := .slice Y2 ypl.length k2) (v := .slice none 0 0) rfl).set (i := 3) (u := .slice Y3 yds.length k3) (v := .slice none 0 0) rfl).set (i := 4) (u := .int .i64 ym) (v := .int .i64 0) rfl), (HOW.out.chg hch HX.out).rd, (HOV.out.chg hch HY.out).nums, Below.chg hJ hch hJ.size (by simp; omega)⟩
 case rest =>
  obtain ⟨yb, Y1, Y2, Y3, AF, k1, k2, k3, cF, rfl, rfl, LY, hry, hfs, hbx⟩ := hcut
  replace LX := LX.below hbx
  replace hra := hra.below hbx
  replace hrx := hrx.below hbx
  replace hns := hns.below hbx
  replace hbw := bl_trans hbw hbx
  clear hrt L1 hbx HR2
  skip
  obtain ⟨wr, hwr⟩ : ∃ x, wc = x := ⟨_, rfl⟩
  rw [hwr] at LY hry hfs LX hra hrx hns hbw ⊢
  clear hwr
  have HR3 : Hid (∀ va W, RdTheatre W (.slice Y1 ycs.length k1) (.slice Y2 ypl.length k2) (.slice Y3 yds.length k3) ycs ypl yds → RdL cAct 3 W va (acts.drop k) → Calls Tryz.prog 7 #[.agg #[.int .i64 yn, .slice Y1 ycs.length k1, .slice Y2 ypl.length k2, .slice Y3 yds.length k3, .int .i64 ym], va] W (RetTI W.heap.size n' m' cs' pl' ds' rs W)) := HR3'.out _ _ _
  clear HR3'
  go_upto_region 8 with (fail)
  go_cut [11, 12] (fun s9 s10 wx => ∃ (xb : Nat) (Z1 Z2 Z3 AR : Option Addr) (z1 z2 z3 cR : Nat), s9 = .pointer (some ⟨xb, 0, none⟩) ∧ s10 = .slice AR rs.length cR ∧ Loc wx xb [.int .i64 n', .slice Z1 cs'.length z1, .slice Z2 pl'.length z2, .slice Z3 ds'.length z3, .int .i64 m'] ∧ RdTheatre wx (.slice Z1 cs'.length z1) (.slice Z2 pl'.length z2) (.slice Z3 ds'.length z3) cs' pl' ds' ∧ RdL cInt 1 wx (.slice AR rs.length cR) rs ∧ Below wr.heap.size wr wx)
  case first =>
   refine region_pendL (n := 71) 9 7 (by kernel_rfl) rfl (by kernel_rfl) [] (by kernel_rfl) (fun _ => false) (fun w' => Below wr.heap.size wr w') (fun i => if i = 8 then 2 else 1) (paq wr.heap.size n' m' yn ym Y1 Y2 Y3 A5 k1 k2 k3 n5 k cs' ycs pl' ypl ds' yds rs acts) trivial (Below.refl _ _).drew ?_ ?_ ?_ ?_
   ·intro i v gh gh' w1 w2 hp hJ hb' hg
    match i, hp with
    | 0, hp => exact hp
    | 1, hp => exact hp
    | 2, hp => exact hp
    | 3, hp => exact (by obtain ⟨A6, c6, h1, h2⟩ := hp; exact ⟨A6, c6, h1, h2.below hb'⟩)
    | 4, hp => exact (by obtain ⟨Z1, Z2, Z3, AR, z1, z2, z3, cR, h1, h2⟩ := hp; exact ⟨Z1, Z2, Z3, AR, z1, z2, z3, cR, h1, h2.keep (fun S h => h.below hb') hb' hg⟩)
    | 5, hp => exact (by obtain ⟨Z1, Z2, Z3, AR, z1, z2, z3, cR, h1, h2⟩ := hp; exact ⟨Z1, Z2, Z3, AR, z1, z2, z3, cR, h1, h2.keep (fun S h => h.below hb') hb' hg⟩)
    | 6, hp => exact (by obtain ⟨Z1, Z2, Z3, AR, z1, z2, z3, cR, h1, h2⟩ := hp; exact ⟨Z1, Z2, Z3, AR, z1, z2, z3, cR, h1, h2.keep (fun S h => h.below hb') hb' hg⟩)
    | 7, hp => exact (by obtain ⟨Z1, Z2, Z3, AR, z1, z2, z3, cR, h1, h2⟩ := hp; exact ⟨Z1, Z2, Z3, AR, z1, z2, z3, cR, h1, h2.keep (fun S h => h.below hb') hb' hg⟩)
    | 8, hp => exact (by obtain ⟨xb, h1, h2, h3, h4, h5⟩ := hp; exact ⟨xb, h1, h2, h3.below hb', (hg _ h5).trans h4, Nat.lt_of_lt_of_le h5 hb'.size⟩)
    | _ + 9, _ => trivial
   ·refine ⟨?_, ?_, ?_, ?_, ?_, ?_, ?_, ?_, ?_, trivial⟩
    ·intro a gh w5 hag hJ hd
     dsimp only [bareO]
     have ag9 : a.tmps.getD 9 undef = .pointer (some ⟨yb, 0, none⟩) := hag.kept 9 (by kernel_rfl)
     clear hag
     have k0 := ((LY.below hJ) 0 _ rfl).1
     have k1 := ((LY.below hJ) 1 _ rfl).1
     have k2 := ((LY.below hJ) 2 _ rfl).1
     have k3 := ((LY.below hJ) 3 _ rfl).1
     have k4 := ((LY.below hJ) 4 _ rfl).1
     go_wp2_with fail
     exact ⟨rfl, _, rfl, rfl, hJ, Below.refl _ _⟩
    ·intro a gh w5 hag hJ hd
     dsimp only [bareO]
     have ag4 : a.tmps.getD 4 undef = .slice A5 acts.length n5 := hag.kept 4 (by kernel_rfl)
     clear hag
     go_wp2_with fail
     exact ⟨rfl, _, rfl, rfl, hJ, Below.refl _ _⟩
    ·intro a gh w5 hag hJ hd
     dsimp only [bareO]
     have ag6 : a.tmps.getD 6 undef = .int .i64 k := hag.kept 6 (by kernel_rfl)
     clear hag
     go_wp2_with fail
     exact ⟨rfl, _, rfl, rfl, hJ, Below.refl _ _⟩
    ·intro a gh w5 hag hJ hd
     dsimp only [bareO]
     clear hag
     have e0 : a.tmps.getD 45 undef = .slice A5 acts.length n5 := hd 1 (by kernel_rfl) _ rfl
     have e1 : a.tmps.getD 46 undef = .int .i64 k := hd 2 (by kernel_rfl) _ rfl
     have hr5 := hra.below hJ
     go_wp2_with fail
     all_goals first | exact ⟨rfl, _, rfl, ⟨A5, 0, rfl, rdL_slice0 hr5 (by assumption)⟩, hJ, Below.refl _ _⟩ | exact ⟨rfl, _, rfl, ⟨_, _, rfl, rdL_slice cAct_len (by omega) hr5 HK.out⟩, hJ, Below.refl _ _⟩
    ·intro a gh w5 hag hJ hd
     dsimp only [bareO]
     clear hag
     have e0 : a.tmps.getD 44 undef = .agg #[.int .i64 yn, .slice Y1 ycs.length k1, .slice Y2 ypl.length k2, .slice Y3 yds.length k3, .int .i64 ym] := hd 0 (by kernel_rfl) _ rfl
     obtain ⟨A6, c6, e1, h6⟩ : ∃ (A6 : Option Addr) (c6 : Nat), a.tmps.getD 47 undef = .slice A6 (acts.length - k) c6 ∧ RdL cAct 3 w5 (.slice A6 (acts.length - k) c6) (acts.drop k) := hd 3 (by kernel_rfl) _ rfl
     go_wp2_with fail
     refine (HR3.out _ w5 (hry.below hJ) h6).mono ?_
     rintro e w6 ⟨y1, y2, y3, S9, vq, SN, rfl, ow9, fr9, ol9, frn, hdj, hb9⟩
     obtain ⟨⟨G1, p1, rfl⟩, ⟨G2, p2, rfl⟩, ⟨G3, p3, rfl⟩⟩ := ow9.rd.forms
     obtain ⟨G4, p4, rfl, _, _⟩ := (show RdL cInt 1 w6 vq _ from RdS.of_own ol9.1).form
     dsimp only at *
     go_wp2_with fail
     exact ⟨rfl, _, rfl, ⟨_, _, _, _, _, _, _, _, rfl, OwG.of_fresh ⟨_, _, rfl, ow9, ol9⟩ (fresh_join fr9 frn hdj) hJ.size⟩, bl_trans hJ hb9, hb9⟩
    ·intro a gh w5 hag hJ hd
     dsimp only [bareO]
     clear hag
     obtain ⟨Z1, Z2, Z3, AR, z1, z2, z3, cR, e0, h2⟩ : ∃ (Z1 Z2 Z3 AR : Option Addr) (z1 z2 z3 cR : Nat), a.tmps.getD 48 undef = .tuple #[.agg #[.int .i64 n', .slice Z1 cs'.length z1, .slice Z2 pl'.length z2, .slice Z3 ds'.length z3, .int .i64 m'], .slice AR rs.length cR] ∧ OwG wr.heap.size (fun w T => OwTI w T (.slice Z1 cs'.length z1) (.slice Z2 pl'.length z2) (.slice Z3 ds'.length z3) (.slice AR rs.length cR) cs' pl' ds' rs) 1 gh w5 := hd 4 (by kernel_rfl) _ rfl
     go_wp2_with fail
     exact ⟨rfl, _, rfl, ⟨_, _, _, _, _, _, _, _, rfl, h2.same _⟩, hJ, Below.refl _ _⟩
    ·intro a gh w5 hag hJ hd
     dsimp only [bareO]
     clear hag
     obtain ⟨Z1, Z2, Z3, AR, z1, z2, z3, cR, e0, h2⟩ : ∃ (Z1 Z2 Z3 AR : Option Addr) (z1 z2 z3 cR : Nat), a.tmps.getD 43 undef = .tuple #[.agg #[.int .i64 n', .slice Z1 cs'.length z1, .slice Z2 pl'.length z2, .slice Z3 ds'.length z3, .int .i64 m'], .slice AR rs.length cR] ∧ OwG wr.heap.size (fun w T => OwTI w T (.slice Z1 cs'.length z1) (.slice Z2 pl'.length z2) (.slice Z3 ds'.length z3) (.slice AR rs.length cR) cs' pl' ds' rs) 1 gh w5 := hd 5 (by kernel_rfl) _ rfl
     go_wp2_with fail
     exact ⟨rfl, _, rfl, ⟨_, _, _, _, _, _, _, _, rfl, h2.same _⟩, hJ, Below.refl _ _⟩
    ·intro a gh w5 hag hJ hd
     dsimp only [bareO]
     clear hag
     obtain ⟨Z1, Z2, Z3, AR, z1, z2, z3, cR, e0, h2⟩ : ∃ (Z1 Z2 Z3 AR : Option Addr) (z1 z2 z3 cR : Nat), a.tmps.getD 43 undef = .tuple #[.agg #[.int .i64 n', .slice Z1 cs'.length z1, .slice Z2 pl'.length z2, .slice Z3 ds'.length z3, .int .i64 m'], .slice AR rs.length cR] ∧ OwG wr.heap.size (fun w T => OwTI w T (.slice Z1 cs'.length z1) (.slice Z2 pl'.length z2) (.slice Z3 ds'.length z3) (.slice AR rs.length cR) cs' pl' ds' rs) 1 gh w5 := hd 5 (by kernel_rfl) _ rfl
     go_wp2_with fail
     exact ⟨rfl, _, rfl, ⟨_, _, _, _, _, _, _, _, rfl, h2.same _⟩, hJ, Below.refl _ _⟩
    ·intro a gh w5 hag hJ hd
     dsimp only [bareO]
     clear hag
     go_wp2_with fail
     exact ⟨rfl, _, rfl, ⟨w5.heap.size, rfl, hJ.size, Loc.new w5 #[.int .i64 0, .slice none 0 0, .slice none 0 0, .slice none 0 0, .int .i64 0] 30, if_neg (Nat.lt_irrefl _), by simp⟩, hJ.alloc hJ.size _, (Below.refl _ _).alloc (Nat.le_refl _) _⟩
   ·intro a gh w5 hag hJ hd
    have ag0 := hag.kept 0 (by kernel_rfl)
    have ag1 := hag.kept 1 (by kernel_rfl)
    have ag2 := hag.kept 2 (by kernel_rfl)
    have ag3 := hag.kept 3 (by kernel_rfl)
    have ag4 : a.tmps.getD 4 undef = .slice A5 acts.length n5 := hag.kept 4 (by kernel_rfl)
    have ag5 := hag.kept 5 (by kernel_rfl)
    have ag6 : a.tmps.getD 6 undef = .int .i64 k := hag.kept 6 (by kernel_rfl)
    have ag7 := hag.kept 7 (by kernel_rfl)
    have ag8 := hag.kept 8 (by kernel_rfl)
    have ag9 : a.tmps.getD 9 undef = .pointer (some ⟨yb, 0, none⟩) := hag.kept 9 (by kernel_rfl)
    have ag10 := hag.kept 10 (by kernel_rfl)
    rw [act71ap hag.size hag.defers]
    clear hag
    obtain ⟨Z1, Z2, Z3, AR, z1, z2, z3, cR, e0, h2⟩ : ∃ (Z1 Z2 Z3 AR : Option Addr) (z1 z2 z3 cR : Nat), a.tmps.getD 49 undef = .agg #[.int .i64 n', .slice Z1 cs'.length z1, .slice Z2 pl'.length z2, .slice Z3 ds'.length z3, .int .i64 m'] ∧ OwG wr.heap.size (fun w T => OwTI w T (.slice Z1 cs'.length z1) (.slice Z2 pl'.length z2) (.slice Z3 ds'.length z3) (.slice AR rs.length cR) cs' pl' ds' rs) 1 gh w5 := hd 6 (by kernel_rfl) _ rfl
    obtain ⟨xb, e14, hxb, Lx, hgx, hxlt⟩ : ∃ xb, a.tmps.getD 11 undef = .pointer (some ⟨xb, 0, none⟩) ∧ wr.heap.size ≤ xb ∧ Loc w5 xb [.int .i64 0, .slice none 0 0, .slice none 0 0, .slice none 0 0, .int .i64 0] ∧ gh xb = 2 ∧ xb < w5.heap.size := hd 8 (by kernel_rfl) _ rfl
    obtain ⟨G1, G2, G3, AR', p1, p2, p3, cR', e15, h3⟩ : ∃ (G1 G2 G3 AR' : Option Addr) (p1 p2 p3 cR' : Nat), a.tmps.getD 50 undef = .slice AR' rs.length cR' ∧ OwG wr.heap.size (fun w T => OwTI w T (.slice G1 cs'.length p1) (.slice G2 pl'.length p2) (.slice G3 ds'.length p3) (.slice AR' rs.length cR') cs' pl' ds' rs) 1 gh w5 := hd 7 (by kernel_rfl) _ rfl
    rw [ag0, ag1, ag2, ag3, ag4, ag5, ag6, ag7, ag8, ag9, ag10, e0, e14, e15]
    change wpList _ _ _ [_, _] _ _
    obtain ⟨S9, ow9, hnd9, hcl9⟩ := h2
    obtain ⟨S8, ow8, hnd8, hcl8⟩ := h3
    have hxS : ∀ b ∈ S9, b ∉ [xb] := fun b hb hb' => by have h1 := (hcl9 b hb).2; simp at hb'; subst hb'; omega
    have hxT : ∀ b ∈ S8, b ∉ [xb] := fun b hb hb' => by have h1 := (hcl8 b hb).2; simp at hb'; subst hb'; omega
    have HX := Lib.hid hxS
    have HY := Lib.hid hxT
    have HOW := Lib.hid ow9
    have HOV := Lib.hid ow8
    have x0 := (Lx 0 _ rfl).1
    have x1 := (Lx 1 _ rfl).1
    have x2 := (Lx 2 _ rfl).1
    have x3 := (Lx 3 _ rfl).1
    have x4 := (Lx 4 _ rfl).1
    have f0 := (Lx 0 _ rfl).2
    have f1 := (Lx 1 _ rfl).2
    have f2 := (Lx 2 _ rfl).2
    have f3 := (Lx 3 _ rfl).2
    have f4 := (Lx 4 _ rfl).2
    clear hd hcl9 ow9 hxS hcl8 ow8 hxT hgx hnd9 hnd8
    go_wp2_with fail
    go_meet
    case rel =>
     have hch : Chg [xb] w5 (((((w5.setCell ⟨xb, 0, none⟩ (.int .i64 n')).setCell ⟨xb, 1, none⟩ (.slice Z1 cs'.length z1)).setCell ⟨xb, 2, none⟩ (.slice Z2 pl'.length z2)).setCell ⟨xb, 3, none⟩ (.slice Z3 ds'.length z3)).setCell ⟨xb, 4, none⟩ (.int .i64 m')) := by repeat' (with_reducible first | exact Chg.refl _ _ | refine qC ?_)
     exact ⟨xb, Z1, Z2, Z3, AR', z1, z2, z3, cR', rfl, rfl, (((((Lx.set (i := 0) (u := .int .i64 n') (v := .int .i64 0) rfl).set (i := 1) (u := .slice Z1 cs'.length z1) (v := .slice none 0 0) rfl).set (i := 2) (u := .slice Z2 pl'.length z2) (v := .slice none 0 0) rfl).set (i := 3) (u := .slice Z3 ds'.length z3) (v := .slice none 0 0) rfl).set (i := 4) (u := .int .i64 m') (v := .int .i64 0) rfl), (HOW.out.chg hch HX.out).rd, (HOV.out.chg hch HY.out).nums, Below.chg hJ hch hJ.size (by simp; omega)⟩
   ·intro a gh w5 hag hJ hd
    have ag0 := hag.kept 0 (by kernel_rfl)
    have ag1 := hag.kept 1 (by kernel_rfl)
    have ag2 := hag.kept 2 (by kernel_rfl)
    have ag3 := hag.kept 3 (by kernel_rfl)
    have ag4 : a.tmps.getD 4 undef = .slice A5 acts.length n5 := hag.kept 4 (by kernel_rfl)
    have ag5 := hag.kept 5 (by kernel_rfl)
    have ag6 : a.tmps.getD 6 undef = .int .i64 k := hag.kept 6 (by kernel_rfl)
    have ag7 := hag.kept 7 (by kernel_rfl)
    have ag8 := hag.kept 8 (by kernel_rfl)
    have ag9 : a.tmps.getD 9 undef = .pointer (some ⟨yb, 0, none⟩) := hag.kept 9 (by kernel_rfl)
    have ag10 := hag.kept 10 (by kernel_rfl)
    rw [act71ap hag.size hag.defers]
    clear hag
    obtain ⟨Z1, Z2, Z3, AR, z1, z2, z3, cR, e0, h2⟩ : ∃ (Z1 Z2 Z3 AR : Option Addr) (z1 z2 z3 cR : Nat), a.tmps.getD 49 undef = .agg #[.int .i64 n', .slice Z1 cs'.length z1, .slice Z2 pl'.length z2, .slice Z3 ds'.length z3, .int .i64 m'] ∧ OwG wr.heap.size (fun w T => OwTI w T (.slice Z1 cs'.length z1) (.slice Z2 pl'.length z2) (.slice Z3 ds'.length z3) (.slice AR rs.length cR) cs' pl' ds' rs) 1 gh w5 := hd 6 (by kernel_rfl) (by decide) _ rfl
    obtain ⟨xb, e14, hxb, Lx, hgx, hxlt⟩ : ∃ xb, a.tmps.getD 11 undef = .pointer (some ⟨xb, 0, none⟩) ∧ wr.heap.size ≤ xb ∧ Loc w5 xb [.int .i64 0, .slice none 0 0, .slice none 0 0, .slice none 0 0, .int .i64 0] ∧ gh xb = 2 ∧ xb < w5.heap.size := hd 8 (by kernel_rfl) (by decide) _ rfl
    obtain ⟨G1, G2, G3, AR', p1, p2, p3, cR', e15, h3⟩ : ∃ (G1 G2 G3 AR' : Option Addr) (p1 p2 p3 cR' : Nat), a.tmps.getD 43 undef = .tuple #[.agg #[.int .i64 n', .slice G1 cs'.length p1, .slice G2 pl'.length p2, .slice G3 ds'.length p3, .int .i64 m'], .slice AR' rs.length cR'] ∧ OwG wr.heap.size (fun w T => OwTI w T (.slice G1 cs'.length p1) (.slice G2 pl'.length p2) (.slice G3 ds'.length p3) (.slice AR' rs.length cR') cs' pl' ds' rs) 1 gh w5 := hd 5 (by kernel_rfl) (by decide) _ rfl
    rw [ag0, ag1, ag2, ag3, ag4, ag5, ag6, ag7, ag8, ag9, ag10, e0, e14, e15]
    change wpList _ _ _ [_, _, _] _ _
    obtain ⟨S9, ow9, hnd9, hcl9⟩ := h2
    obtain ⟨S8, ow8, hnd8, hcl8⟩ := h3
    have hxS : ∀ b ∈ S9, b ∉ [xb] := fun b hb hb' => by have h1 := (hcl9 b hb).2; simp at hb'; subst hb'; omega
    have hxT : ∀ b ∈ S8, b ∉ [xb] := fun b hb hb' => by have h1 := (hcl8 b hb).2; simp at hb'; subst hb'; omega
    have HX := Lib.hid hxS
    have HY := Lib.hid hxT
    have HOW := Lib.hid ow9
    have HOV := Lib.hid ow8
    have x0 := (Lx 0 _ rfl).1
    have x1 := (Lx 1 _ rfl).1
    have x2 := (Lx 2 _ rfl).1
    have x3 := (Lx 3 _ rfl).1
    have x4 := (Lx 4 _ rfl).1
    have f0 := (Lx 0 _ rfl).2
    have f1 := (Lx 1 _ rfl).2
    have f2 := (Lx 2 _ rfl).2
    have f3 := (Lx 3 _ rfl).2
    have f4 := (Lx 4 _ rfl).2
    clear hd hcl9 ow9 hxS hcl8 ow8 hxT hgx hnd9 hnd8
    go_wp2_with fail
    go_meet
    case rel =>
     have hch : Chg [xb] w5 (((((w5.setCell ⟨xb, 0, none⟩ (.int .i64 n')).setCell ⟨xb, 1, none⟩ (.slice Z1 cs'.length z1)).setCell ⟨xb, 2, none⟩ (.slice Z2 pl'.length z2)).setCell ⟨xb, 3, none⟩ (.slice Z3 ds'.length z3)).setCell ⟨xb, 4, none⟩ (.int .i64 m')) := by repeat' (with_reducible first | exact Chg.refl _ _ | refine qC ?_)
     exact ⟨xb, Z1, Z2, Z3, AR', z1, z2, z3, cR', rfl, rfl, (((((Lx.set (i := 0) (u := .int .i64 n') (v := .int .i64 0) rfl).set (i := 1) (u := .slice Z1 cs'.length z1) (v := .slice none 0 0) rfl).set (i := 2) (u := .slice Z2 pl'.length z2) (v := .slice none 0 0) rfl).set (i := 3) (u := .slice Z3 ds'.length z3) (v := .slice none 0 0) rfl).set (i := 4) (u := .int .i64 m') (v := .int .i64 0) rfl), (HOW.out.chg hch HX.out).rd, (HOV.out.chg hch HY.out).nums, Below.chg hJ hch hJ.size (by simp; omega)⟩
  case rest =>
   obtain ⟨zb, Z1, Z2, Z3, AR, z1, z2, z3, cR, rfl, rfl, LZ, hrz, hrs, hbx⟩ := hcut
   replace LX := LX.below hbx
   replace hrx := hrx.below hbx
   replace hns := hns.below hbx
   replace hfs := hfs.below hbx
   replace hbw := bl_trans hbw hbx
   clear LY hry hra hbx HR3 i0 i1 i2 i3 i4
   obtain ⟨wr, hwr⟩ : ∃ x, wc = x := ⟨_, rfl⟩
   rw [hwr] at LZ hrz hrs hfs LX hrx hns hbw ⊢
   clear hwr
   have HT : Hid (∀ W, Below wr.heap.size wr W → TabOk W) := fun W hJ => (ht.below hbw).below hJ
   have hd0 : decide ((0 : Int) < (tl.length : Int)) = true := decide_eq_true (by omega)
   go_upto_region 9 with (fail)
   refine region_grownGL (n := 71) 20 (by kernel_rfl) rfl (by kernel_rfl) apBefore apNeed [19] (by kernel_rfl) [(4, true), (11, true)] (by kernel_rfl) (by kernel_rfl) apR (fun w' => Below wr.heap.size wr w') (fun _ => 0) (par wr.heap.size n' m' X1 X2 X3 Z1 Z2 Z3 AN AF AR x1 x2 x3 z1 z2 z3 cN cF cR cs' pl' ds' ns fs rs tl) (Below.refl _ _).drew ⟨fun _ _ _ h => h, fun _ _ _ h => h, trivial⟩ ?_ ?_ ?_
   ·intro i k v gh gh' w1 w2 hal hp hJ hR hg
    match i, hp, hal with
    | 0, hp, _ => exact hp
    | 1, hp, _ => exact hp
    | 2, hp, _ => exact hp
    | 3, hp, _ => exact hp
    | 4, hp, _ => exact hp
    | 5, hp, _ => exact hp
    | 6, ⟨Ao, co, h1, h2⟩, hal =>
     rcases hR with rfl | hb
     ·exact absurd hal (by decide)
     ·exact ⟨Ao, co, h1, RdL.below h2 hb⟩
    | 7, hp, _ => exact hp
    | 8, ⟨Ao, co, h1, h2⟩, hal =>
     rcases hR with rfl | hb
     ·exact absurd hal (by decide)
     ·exact ⟨Ao, co, h1, RdL.below h2 hb⟩
    | 9, hp, _ => exact hp
    | 10, hp, _ => exact hp
    | 11, hp, _ => exact hp
    | 12, hp, _ => exact hp
    | 13, ⟨g, h1, h2⟩, hal =>
     rcases hR with rfl | hb
     ·exact absurd hal (by decide)
     ·exact ⟨g, h1, own_below h2 hb⟩
    | 14, hp, _ => exact hp
    | 15, ⟨Ao, co, h1, h2⟩, hal =>
     rcases hR with rfl | hb
     ·exact absurd hal (by decide)
     ·exact ⟨Ao, co, h1, own_below h2 hb⟩
    | 16, hp, _ => exact hp
    | 17, ⟨Ao, co, h1, h2⟩, hal =>
     rcases hR with rfl | hb
     ·exact absurd hal (by decide)
     ·exact ⟨Ao, co, h1, own_below h2 hb⟩
    | 18, hp, _ => exact hp
    | 19, hp, _ => exact hp
    | _ + 20, _, _ => trivial
   ·refine ⟨?_, ?_, ?_, ?_, ?_, ?_, ?_, ?_, ?_, ?_, ?_, ?_, ?_, ?_, ?_, ?_, ?_, ?_, ?_, ?_, trivial⟩
    ·intro a gh w5 hag hJ hd
     dsimp only [bareO]
     have ag7 : a.tmps.getD 7 undef = .pointer (some ⟨xb0, 0, none⟩) := hag.kept 7 (by kernel_rfl)
     clear hag
     have k0 := ((LX.below hJ) 0 _ rfl).1
     have k1 := ((LX.below hJ) 1 _ rfl).1
     have k2 := ((LX.below hJ) 2 _ rfl).1
     have k3 := ((LX.below hJ) 3 _ rfl).1
     have k4 := ((LX.below hJ) 4 _ rfl).1
     go_wp2_with fail
     exact ⟨rfl, _, rfl, rfl, hJ, .inr (Below.refl _ _)⟩
    ·intro a gh w5 hag hJ hd
     dsimp only [bareO]
     clear hag
     have e0 : a.tmps.getD 51 undef = .agg #[.int .i64 n', .slice X1 cs'.length x1, .slice X2 pl'.length x2, .slice X3 ds'.length x3, .int .i64 m'] := hd 0 (by kernel_rfl) _ rfl
     go_wp2_with fail
     refine (HF.out _ _ _ w5 (hrx.below hJ) (HT.out w5 hJ)).mono ?_
     rintro e w6 ⟨vf, rfl, own6, hb6⟩
     have hr6 : RdL cStr 1 w6 vf tl := RdS.of_own own6
     obtain ⟨Af, cf, rfl, _, _⟩ := hr6.form
     go_wp2_with fail
     exact ⟨rfl, _, rfl, ⟨Af, cf, rfl⟩, bl_trans hJ hb6, .inr hb6⟩
    ·intro a gh w5 hag hJ hd
     dsimp only [bareO]
     clear hag
     obtain ⟨Ao, co, e0⟩ : ∃ (Ao : Option Addr) (co : Nat), a.tmps.getD 52 undef = .slice Ao tl.length co := hd 1 (by kernel_rfl) _ rfl
     go_wp2_with fail
     exact ⟨rfl, _, rfl, rfl, hJ, .inr (Below.refl _ _)⟩
    ·intro a gh w5 hag hJ hd
     dsimp only [bareO]
     clear hag
     have e0 : a.tmps.getD 53 undef = .int .i64 tl.length := hd 2 (by kernel_rfl) _ rfl
     go_wp2_with fail
     exact ⟨rfl, _, rfl, rfl, hJ, .inr (Below.refl _ _)⟩
    ·intro a gh w5 hag hJ hd
     dsimp only [bareO]
     clear hag
     have e0 : a.tmps.getD 54 undef = .bool true := hd 3 (by kernel_rfl) _ rfl
     go_wp2_with fail
     exact ⟨rfl, _, rfl, rfl, hJ, .inr (Below.refl _ _)⟩
    ·intro a gh w5 hag hJ hd
     dsimp only [bareO]
     have ag7 : a.tmps.getD 7 undef = .pointer (some ⟨xb0, 0, none⟩) := hag.kept 7 (by kernel_rfl)
     clear hag
     have k0 := ((LX.below hJ) 0 _ rfl).1
     have k1 := ((LX.below hJ) 1 _ rfl).1
     have k2 := ((LX.below hJ) 2 _ rfl).1
     have k3 := ((LX.below hJ) 3 _ rfl).1
     have k4 := ((LX.below hJ) 4 _ rfl).1
     go_wp2_with fail
     exact ⟨rfl, _, rfl, rfl, hJ, .inr (Below.refl _ _)⟩
    ·intro a gh w5 hag hJ hd
     dsimp only [bareO]
     clear hag
     have e0 : a.tmps.getD 56 undef = .agg #[.int .i64 n', .slice X1 cs'.length x1, .slice X2 pl'.length x2, .slice X3 ds'.length x3, .int .i64 m'] := hd 5 (by kernel_rfl) _ rfl
     go_wp2_with fail
     refine (HF.out _ _ _ w5 (hrx.below hJ) (HT.out w5 hJ)).mono ?_
     rintro e w6 ⟨vf, rfl, own6, hb6⟩
     have hr6 : RdL cStr 1 w6 vf tl := RdS.of_own own6
     obtain ⟨Af, cf, rfl, _, _⟩ := hr6.form
     go_wp2_with fail
     exact ⟨rfl, _, rfl, ⟨Af, cf, rfl, hr6⟩, bl_trans hJ hb6, .inr hb6⟩
    ·intro a gh w5 hag hJ hd
     dsimp only [bareO]
     have ag11 : a.tmps.getD 11 undef = .pointer (some ⟨zb, 0, none⟩) := hag.kept 11 (by kernel_rfl)
     clear hag
     have k0 := ((LZ.below hJ) 0 _ rfl).1
     have k1 := ((LZ.below hJ) 1 _ rfl).1
     have k2 := ((LZ.below hJ) 2 _ rfl).1
     have k3 := ((LZ.below hJ) 3 _ rfl).1
     have k4 := ((LZ.below hJ) 4 _ rfl).1
     go_wp2_with fail
     exact ⟨rfl, _, rfl, rfl, hJ, .inr (Below.refl _ _)⟩
    ·intro a gh w5 hag hJ hd
     dsimp only [bareO]
     clear hag
     have e0 : a.tmps.getD 58 undef = .agg #[.int .i64 n', .slice Z1 cs'.length z1, .slice Z2 pl'.length z2, .slice Z3 ds'.length z3, .int .i64 m'] := hd 7 (by kernel_rfl) _ rfl
     go_wp2_with fail
     refine (HF.out _ _ _ w5 (hrz.below hJ) (HT.out w5 hJ)).mono ?_
     rintro e w6 ⟨vf, rfl, own6, hb6⟩
     have hr6 : RdL cStr 1 w6 vf tl := RdS.of_own own6
     obtain ⟨Af, cf, rfl, _, _⟩ := hr6.form
     go_wp2_with fail
     exact ⟨rfl, _, rfl, ⟨Af, cf, rfl, hr6⟩, bl_trans hJ hb6, .inr hb6⟩
    ·intro a gh w5 hag hJ hd
     dsimp only [bareO]
     clear hag
     obtain ⟨Ao, co, e0, h6⟩ : ∃ (Ao : Option Addr) (co : Nat), a.tmps.getD 57 undef = .slice Ao tl.length co ∧ RdL cStr 1 w5 (.slice Ao tl.length co) tl := hd 6 (by kernel_rfl) _ rfl
     obtain ⟨Ap, cp, e1, h8⟩ : ∃ (Ap : Option Addr) (cp : Nat), a.tmps.getD 59 undef = .slice Ap tl.length cp ∧ RdL cStr 1 w5 (.slice Ap tl.length cp) tl := hd 8 (by kernel_rfl) _ rfl
     go_wp2_with fail
     refine (sameTexts_eq _ _ tl w5 h6 h8).mono ?_
     rintro e w6 ⟨rfl, hb6⟩
     go_wp2_with fail
     exact ⟨rfl, _, rfl, rfl, bl_trans hJ hb6, .inr hb6⟩
    ·intro a gh w5 hag hJ hd
     dsimp only [bareO]
     clear hag
     have e0 : a.tmps.getD 55 undef = .bool true := hd 4 (by kernel_rfl) _ rfl
     have e1 : a.tmps.getD 60 undef = .bool true := hd 9 (by kernel_rfl) _ rfl
     go_wp2_with fail
     exact ⟨rfl, _, rfl, rfl, hJ, .inr (Below.refl _ _)⟩
    ·intro a gh w5 hag hJ hd
     dsimp only [bareO]
     clear hag
     have e0 : a.tmps.getD 61 undef = .bool true := hd 10 (by kernel_rfl) _ rfl
     go_wp2_with fail
     exact ⟨rfl, _, rfl, rfl, hJ, .inr (Below.refl _ _)⟩
    ·intro a gh w5 hag hJ hd
     dsimp only [bareO]
     have ag8 : a.tmps.getD 8 undef = .slice AN ns.length cN := hag.kept 8 (by kernel_rfl)
     clear hag
     go_wp2_with fail
     exact ⟨rfl, _, rfl, rfl, hJ, .inr (Below.refl _ _)⟩
    ·intro a gh w5 hag hJ hd
     dsimp only [bareO]
     rw [act71ap hag.size hag.defers]
     go_wp2_with fail
     exact ⟨rfl, _, rfl, ⟨w5.heap.size, rfl, World.ownsRow_made (size := 1) (e := 3) w5 #[] 0 hJ.size (by simp [maxLen]) rfl⟩, hJ.alloc hJ.size _, .inr ((Below.refl _ _).alloc (Nat.le_refl _) _)⟩
    ·intro a gh w5 hag hJ hd
     dsimp only [bareO]
     have ag10 : a.tmps.getD 10 undef = .slice AF fs.length cF := hag.kept 10 (by kernel_rfl)
     clear hag
     go_wp2_with fail
     exact ⟨rfl, _, rfl, rfl, hJ, .inr (Below.refl _ _)⟩
    ·intro a gh w5 hag hJ hd
     dsimp only [bareO]
     obtain ⟨g1, e0, og⟩ : ∃ g, a.tmps.getD 64 undef = .slice (some ⟨g, 0, none⟩) 0 0 ∧ w5.ownsRow wr.heap.size 3 1 (.slice (some ⟨g, 0, none⟩) 0 0) 0 [] := hd 13 (by kernel_rfl) _ rfl
     have e1 : a.tmps.getD 65 undef = .slice AF fs.length cF := hd 14 (by kernel_rfl) _ rfl
     rw [act71ap hag.size hag.defers, e0, e1]
     go_wp2_with (at_builtin; refine wpList_append_empty _ rfl (.tmp 64) (.tmp 65) _ rfl wr.heap.size 3 iI _ 1 8 Tryz.underlying28 hiI hzI0 hzI1 hzI2 rfl (by omega) g1 rfl og _ fs.length (fs.flatMap cInt) rfl (hfs.below hJ) (oneCell_flat cInt_one fs) (by simp [maxLen]; omega) (by omega) hJ.size ?_; intro v3 w3 own3 b3 at3)
     obtain ⟨Aq, cq, rfl, _, _⟩ := (show RdL cInt 1 w3 v3 fs from RdS.of_own own3).form
     exact ⟨rfl, _, rfl, ⟨Aq, cq, rfl, own3⟩, hJ.trans (b3.mono hJ.size), .inr b3⟩
    ·intro a gh w5 hag hJ hd
     dsimp only [bareO]
     have ag12 : a.tmps.getD 12 undef = .slice AR rs.length cR := hag.kept 12 (by kernel_rfl)
     clear hag
     go_wp2_with fail
     exact ⟨rfl, _, rfl, rfl, hJ, .inr (Below.refl _ _)⟩
    ·intro a gh w5 hag hJ hd
     dsimp only [bareO]
     obtain ⟨Ao, co, e0, og⟩ : ∃ (Ao : Option Addr) (co : Nat), a.tmps.getD 66 undef = .slice Ao fs.length co ∧ w5.ownsRow wr.heap.size 3 1 (.slice Ao fs.length co) fs.length (fs.flatMap cInt) := hd 15 (by kernel_rfl) _ rfl
     have e1 : a.tmps.getD 67 undef = .slice AR rs.length cR := hd 16 (by kernel_rfl) _ rfl
     rw [act71ap hag.size hag.defers, e0, e1]
     go_wp2_with (at_builtin; refine wpList_appendB _ rfl (.tmp 66) (.tmp 67) _ rfl wr.heap.size 3 iI _ 1 8 Tryz.underlying28 hiI hzI0 hzI1 hzI2 rfl (by omega) (.slice Ao fs.length co) fs.length (fs.flatMap cInt) rfl og _ rs.length (rs.flatMap cInt) rfl (hrs.below hJ) (oneCell_flat cInt_one rs) (by simp [maxLen]; omega) (by omega) hJ.size ?_; intro v3 w3 own3 gr3 at3)
     obtain ⟨Aq, cq, rfl, _, _⟩ := (RdS.of_own own3).form
     exact ⟨rfl, _, rfl, ⟨Aq, cq, rfl, own3⟩, hJ.trans (below_own og gr3 hJ.size), .inl rfl⟩
    ·intro a gh w5 hag hJ hd
     dsimp only [bareO]
     clear hag
     have e0 : a.tmps.getD 63 undef = .slice AN ns.length cN := hd 12 (by kernel_rfl) _ rfl
     obtain ⟨Ao, co, e1, og⟩ : ∃ (Ao : Option Addr) (co : Nat), a.tmps.getD 68 undef = .slice Ao (fs.length + rs.length) co ∧ w5.ownsRow wr.heap.size 3 1 (.slice Ao (fs.length + rs.length) co) (fs.length + rs.length) (fs.flatMap cInt ++ rs.flatMap cInt) := hd 17 (by kernel_rfl) _ rfl
     have h2 : RdL cInt 1 w5 (.slice Ao (fs.length + rs.length) co) ns := HNS.out _ _ (RdS.of_own og)
     go_wp2_with fail
     refine (HSI.out _ _ w5 (hns.below hJ) h2).mono ?_
     rintro e w6 ⟨rfl, hb6⟩
     go_wp2_with fail
     exact ⟨rfl, _, rfl, rfl, bl_trans hJ hb6, .inr hb6⟩
    ·intro a gh w5 hag hJ hd
     dsimp only [bareO]
     clear hag
     have e0 : a.tmps.getD 62 undef = .bool true := hd 11 (by kernel_rfl) _ rfl
     have e1 : a.tmps.getD 69 undef = .bool true := hd 18 (by kernel_rfl) _ rfl
     go_wp2_with fail
     exact ⟨rfl, _, rfl, rfl, hJ, .inr (Below.refl _ _)⟩
   ·intro a gh w5 hag hJ hd
    have e0 : a.tmps.getD 70 undef = .bool true := hd 19 (by kernel_rfl) _ rfl
    rw [act71ap hag.size hag.defers, e0]
    clear hag hd
    change wpList _ _ _ [_] _ _
    go_wp2_with fail
    go_ret
    exact ⟨rfl, hbw.trans (hJ.mono hbw.size)⟩
theorem door_met_fnActParts (os : Os) (args : Array Value) : laidMetH Tryz.prog Rows.fnActPartsRow.laid ((World.doorLaid Tryz.prog 24 os).forCall (fun _ _ => 0) ⟨#[], args, []⟩).memory :=
 laidMetH_of_parts3 (fuel := 8) (laidMet_of_run' 8 (by kernel_rfl) (by kernel_rfl)) (by kernel_rfl) (by kernel_rfl)
set_option maxRecDepth 100000 in
set_option maxHeartbeats 1000000 in
theorem fnActParts_lifted (os : Os) (started : os.Started) (H : Type) (enc : TypeId × Value → H) :
  ReturnsInHanded {} Tryz.checked os 3 .any (fun w args => (Rows.fnActPartsSpec.pre enc Tryz.prog Tryz.f3 [] false w args ∧ laidMetH Tryz.prog Rows.fnActPartsRow.laid w) ∧ sizedMet enc Tryz.prog Tryz.f3 (OpenSpec.ofChange Rows.fnActPartsSpec) false w args) (Rows.fnActPartsSpec.post enc Tryz.prog Tryz.f3 false true false false) := by
 refine returnsInHanded_of_change_and (C := Tryz.checked) (X := fun w _ => laidMetH Tryz.prog Rows.fnActPartsRow.laid w) (fun _ _ _ hh h => h.of_heap hh) tryOwn started (by kernel_rfl) Tryz.func3
  (ChangeSpec.witness_shaped (enc := enc) (C := Tryz.checked) (os := os) (X := fun w _ => laidMetH Tryz.prog Rows.fnActPartsRow.laid w) false (World.doorLaid Tryz.prog 24 os) #[.slice none 0 0] 12 rfl (World.shaped_of_RefB (by kernel_rfl) (by kernel_rfl)) (by kernel_rfl) (by kernel_rfl) (by kernel_rfl) (door_met_fnActParts os _)) ?_
 intro W base args ds gs before hval0 hW _ _ hL _
 have hval : ∀ (j : Nat) t v, Tryz.f3.params[j]? = some t → args[j]? = some v → Value.okWide Tryz.prog W .any base t v := hval0
 have hW' := hW
 obtain ⟨p, q, hA0, hV, rfl, hfz, hnd⟩ := hW
 have hA : DataW.TrodAll enc Tryz.prog W 0 (fun _ => true) true Tryz.f3.params.toList args.toList ds p := hA0
 rw [Tryz.params3] at hA hval
 obtain ⟨v0, vs0, d0, ds0, p0, q0, hargs, rfl, rfl, h0, r0⟩ := trodAll_cons hA
 obtain ⟨rfl, rfl, rfl⟩ := trodAll_nil r0
 obtain rfl : args = #[v0] := by cases args; simp_all
 obtain ⟨rfl, rfl⟩ := trodVars_none hV
 have e0 := h0
 have lt0 : ∀ x ∈ p0, x.block < W.heap.size := by obtain ⟨m, hm⟩ := e0; exact DataW.trod_lt m _ _ _ hm
 have ok0 := hval 0 22 v0 rfl rfl
 rw [MakeChecks.laidMetH_plain _ _ _ (by kernel_rfl)] at hL
 clear hA0 hval0 hval
 obtain ⟨xs, hrd, hby⟩ := arg_slice Tryz.underlying22 ok0 h0 (opens_slice (f := cU8) (size := 1) Tryz.underlying22 (by kernel_rfl) (by omega) cU8_len (opens_u8 Tryz.underlying5))
 obtain ⟨A, c, rfl, _⟩ := RdS.form hrd
 refine (lawFnActParts_any A c xs W hrd hby (tab3 hL)).mono fun e W' ⟨he, bel⟩ => ?_
 subst he
 exact ⟨_, rfl, _, _, _, [], _, [], hW', trodAll_mk1 (shut_bool Tryz.underlying4 _), (trodAll_cons_mk (Below.trod tryLaid (by kernel_rfl) (of_decide_eq_true (by kernel_rfl)) e0 bel lt0) trodAll_mk0), rfl, bel.frame _, fun h => by cases h⟩
theorem fnActParts_row : Rows.FnActPartsSaid :=
 OpenClaim.holds_of_wide 3 Tryz.f3 rfl rfl rfl rfl rfl rfl rfl ⟨rfl, rfl, rfl, rfl, rfl⟩ rfl rfl rfl rfl rfl (by kernel_rfl) Tryz.func3 (by kernel_rfl)
  (of_decide_eq_true (by kernel_rfl)) (by unfold Func.isWrapper; first | (rw [if_pos (by decide +kernel)]; kernel_rfl) | (rw [if_neg (by decide +kernel)]; exact ⟨rfl, rfl⟩))
  (fun os started H enc _ => fnActParts_lifted os started H enc)
theorem fnActParts_holds : Rows.FnActPartsCardSaid :=
 Claim7.holds_tied_plain_at .later [] [.data, .data, .data] true (true, "23213de207d0f833d363a642053c8af14b37314e2c6c88ee282c8b81b087737f") false
  fnActParts_row (fun _ h => by cases h) (by kernel_rfl) (fun _ h => by cases h) fnActParts_row_tie rfl ⟨rfl, rfl⟩ (by kernel_rfl) rfl
  (fun f fn hf hfn => by
   obtain rfl : f = 3 := Option.some.inj ((show Tryz.prog.funcNamed "loop.example/g03306/laws.FnActParts" = some 3 by kernel_rfl).symm.trans hf) |>.symm
   obtain rfl : fn = Tryz.f3 := (Option.some.inj (Tryz.func3.symm.trans hfn)).symm
   exact ⟨by kernel_rfl, fun j t ht => by
    rw [Tryz.params3] at ht
    have hm : t ∈ [22] := by simpa using Array.mem_of_getElem? ht
    have hall : ([22].all fun u => !Tryz.prog.wantsStandIn u) = true := by kernel_rfl
    exact (show Tryz.prog.wantsStandIn t = false by simpa using List.all_eq_true.1 hall t hm)⟩)
  (by kernel_rfl)
#print axioms fnActParts_holds
end Go.Proofs.YteidpejjjphecaaGreatDoor
