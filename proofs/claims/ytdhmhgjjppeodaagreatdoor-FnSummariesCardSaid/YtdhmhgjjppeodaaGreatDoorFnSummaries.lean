/- FnSummaries: the law returns true for every input. No condition beside the card's own (the library's table reads as its text lays it). Written by a program (gen_fsu.py). -/
import Derived.Test.YtdhmhgjjppeodaaGreatDoorCards
import Derived.Test.YtdhmhgjjppeodaaGreatDoorTie
import Derived.SevenTiedAt
import Derived.LaidMore
import Derived.MakeChecks
import Derived.OpenShut
import Derived.Deep.DeepCutAuto
import Derived.Test.YtdhmhgjjppeodaaGreatDoorW11
import Derived.Test.YtdhmhgjjppeodaaGreatDoorBdH16x2
import Derived.Test.YtdhmhgjjppeodaaGreatDoorO4
import Derived.Test.YtdhmhgjjppeodaaGreatDoorBdW1x3
import Derived.Test.YtdhmhgjjppeodaaGreatDoorO3
import Derived.Test.YtdhmhgjjppeodaaGreatDoorBdM5x6
namespace Go.Proofs.YtdhmhgjjppeodaaGreatDoor
open Go.ChangeShapes Go.WideShapes Go.ChangeAt Go.RowKit Go.Deep
set_option maxRecDepth 100000 in
theorem act146ra {a : Act} (h : a.tmps.size = 146) (hd : a.defers = []) : a = ⟨List.toArray (a.tmps.getD 0 undef :: a.tmps.getD 1 undef :: a.tmps.getD 2 undef :: a.tmps.getD 3 undef :: a.tmps.getD 4 undef :: a.tmps.getD 5 undef :: a.tmps.getD 6 undef :: a.tmps.getD 7 undef :: a.tmps.getD 8 undef :: a.tmps.getD 9 undef :: a.tmps.getD 10 undef :: a.tmps.getD 11 undef :: a.tmps.getD 12 undef :: a.tmps.getD 13 undef :: a.tmps.getD 14 undef :: a.tmps.getD 15 undef :: a.tmps.getD 16 undef :: a.tmps.getD 17 undef :: a.tmps.getD 18 undef :: a.tmps.getD 19 undef :: a.tmps.getD 20 undef :: a.tmps.getD 21 undef :: a.tmps.getD 22 undef :: a.tmps.getD 23 undef :: a.tmps.getD 24 undef :: a.tmps.getD 25 undef :: a.tmps.getD 26 undef :: a.tmps.getD 27 undef :: a.tmps.getD 28 undef :: a.tmps.getD 29 undef :: a.tmps.getD 30 undef :: a.tmps.getD 31 undef :: a.tmps.getD 32 undef :: a.tmps.getD 33 undef :: a.tmps.getD 34 undef :: a.tmps.getD 35 undef :: a.tmps.getD 36 undef :: a.tmps.getD 37 undef :: a.tmps.getD 38 undef :: a.tmps.getD 39 undef :: a.tmps.getD 40 undef :: a.tmps.getD 41 undef :: a.tmps.getD 42 undef :: a.tmps.getD 43 undef :: a.tmps.getD 44 undef :: a.tmps.getD 45 undef :: a.tmps.getD 46 undef :: a.tmps.getD 47 undef :: a.tmps.getD 48 undef :: a.tmps.getD 49 undef :: a.tmps.getD 50 undef :: a.tmps.getD 51 undef :: a.tmps.getD 52 undef :: a.tmps.getD 53 undef :: a.tmps.getD 54 undef :: a.tmps.getD 55 undef :: a.tmps.getD 56 undef :: a.tmps.getD 57 undef :: a.tmps.getD 58 undef :: a.tmps.getD 59 undef :: a.tmps.getD 60 undef :: a.tmps.getD 61 undef :: a.tmps.getD 62 undef :: a.tmps.getD 63 undef :: a.tmps.getD 64 undef :: a.tmps.getD 65 undef :: a.tmps.getD 66 undef :: a.tmps.getD 67 undef :: a.tmps.getD 68 undef :: a.tmps.getD 69 undef :: a.tmps.getD 70 undef :: a.tmps.getD 71 undef :: a.tmps.getD 72 undef :: a.tmps.getD 73 undef :: a.tmps.getD 74 undef :: a.tmps.getD 75 undef :: a.tmps.getD 76 undef :: a.tmps.getD 77 undef :: a.tmps.getD 78 undef :: a.tmps.getD 79 undef :: a.tmps.getD 80 undef :: a.tmps.getD 81 undef :: a.tmps.getD 82 undef :: a.tmps.getD 83 undef :: a.tmps.getD 84 undef :: a.tmps.getD 85 undef :: a.tmps.getD 86 undef :: a.tmps.getD 87 undef :: a.tmps.getD 88 undef :: a.tmps.getD 89 undef :: a.tmps.getD 90 undef :: a.tmps.getD 91 undef :: a.tmps.getD 92 undef :: a.tmps.getD 93 undef :: a.tmps.getD 94 undef :: a.tmps.getD 95 undef :: a.tmps.getD 96 undef :: a.tmps.getD 97 undef :: a.tmps.getD 98 undef :: a.tmps.getD 99 undef :: a.tmps.getD 100 undef :: a.tmps.getD 101 undef :: a.tmps.getD 102 undef :: a.tmps.getD 103 undef :: a.tmps.getD 104 undef :: a.tmps.getD 105 undef :: a.tmps.getD 106 undef :: a.tmps.getD 107 undef :: a.tmps.getD 108 undef :: a.tmps.getD 109 undef :: a.tmps.getD 110 undef :: a.tmps.getD 111 undef :: a.tmps.getD 112 undef :: a.tmps.getD 113 undef :: a.tmps.getD 114 undef :: a.tmps.getD 115 undef :: a.tmps.getD 116 undef :: a.tmps.getD 117 undef :: a.tmps.getD 118 undef :: a.tmps.getD 119 undef :: a.tmps.getD 120 undef :: a.tmps.getD 121 undef :: a.tmps.getD 122 undef :: a.tmps.getD 123 undef :: a.tmps.getD 124 undef :: a.tmps.getD 125 undef :: a.tmps.getD 126 undef :: a.tmps.getD 127 undef :: a.tmps.getD 128 undef :: a.tmps.getD 129 undef :: a.tmps.getD 130 undef :: a.tmps.getD 131 undef :: a.tmps.getD 132 undef :: a.tmps.getD 133 undef :: a.tmps.getD 134 undef :: a.tmps.getD 135 undef :: a.tmps.getD 136 undef :: a.tmps.getD 137 undef :: a.tmps.getD 138 undef :: a.tmps.getD 139 undef :: a.tmps.getD 140 undef :: a.tmps.getD 141 undef :: a.tmps.getD 142 undef :: a.tmps.getD 143 undef :: a.tmps.getD 144 undef :: a.tmps.getD 145 undef :: []), []⟩ := act_eq 146 h hd
def pra (gl ol cl gp k fll : Nat) (r : RPl) (kn : ByteArray) (i : Nat) (v : Value) (_ : Nat → Nat) (_ : World) : Prop :=
 match i with
 | 0 => v = .slice (some ⟨gl, ol, none⟩) fll cl
 | 1 => v = .int .i64 k
 | 2 => v = .int .i64 ((k : Int) + 1)
 | 3 => v = .pointer (some ⟨gl, (ol + (k + 1)), none⟩)
 | 4 => v = .string ((((⟨#[112, 108, 97, 121, 101, 114, 32]⟩ : ByteArray) ++ numS r.2) ++ (⟨#[32]⟩ : ByteArray)) ++ kn)
 | 5 => v = .pointer (some ⟨gp, 1, none⟩)
 | 6 => v = .int .i64 r.2
 | 7 => v = .string (numS r.2)
 | 8 => v = .string ((⟨#[112, 108, 97, 121, 101, 114, 32]⟩ : ByteArray) ++ numS r.2)
 | 9 => v = .string (((⟨#[112, 108, 97, 121, 101, 114, 32]⟩ : ByteArray) ++ numS r.2) ++ (⟨#[32]⟩ : ByteArray))
 | 10 => v = .string kn
 | 11 => v = .string ((((⟨#[112, 108, 97, 121, 101, 114, 32]⟩ : ByteArray) ++ numS r.2) ++ (⟨#[32]⟩ : ByteArray)) ++ kn)
 | _ => True
def prb (gl ol cl gp k fll : Nat) (r : RPl) (kn : ByteArray) (i : Nat) (v : Value) (_ : Nat → Nat) (_ : World) : Prop :=
 match i with
 | 0 => v = .slice (some ⟨gl, ol, none⟩) fll cl
 | 1 => v = .int .i64 k
 | 2 => v = .int .i64 ((k : Int) + 1)
 | 3 => v = .pointer (some ⟨gl, (ol + (k + 1)), none⟩)
 | 4 => v = .string ((((⟨#[112, 108, 97, 121, 101, 114, 32]⟩ : ByteArray) ++ numS r.2) ++ (⟨#[32]⟩ : ByteArray)) ++ kn)
 | 5 => v = .pointer (some ⟨gp, 1, none⟩)
 | 6 => v = .int .i64 r.2
 | 7 => v = .string (numS r.2)
 | 8 => v = .string ((⟨#[112, 108, 97, 121, 101, 114, 32]⟩ : ByteArray) ++ numS r.2)
 | 9 => v = .string (((⟨#[112, 108, 97, 121, 101, 114, 32]⟩ : ByteArray) ++ numS r.2) ++ (⟨#[32]⟩ : ByteArray))
 | 10 => v = .string kn
 | 11 => v = .string ((((⟨#[112, 108, 97, 121, 101, 114, 32]⟩ : ByteArray) ++ numS r.2) ++ (⟨#[32]⟩ : ByteArray)) ++ kn)
 | _ => True
def prc (gt gl ol cl pll fll ol9 c9 csl n1 n2 : Nat) (n m wy : Int) (A1 A2 A9 : Option Addr) (so sd : ByteArray) (i : Nat) (v : Value) (_ : Nat → Nat) (_ : World) : Prop :=
 match i with
 | 0 => v = .slice (some ⟨gl, ol, none⟩) fll cl
 | 1 => v = .pointer (some ⟨gl, ol, none⟩)
 | 2 => v = .string so
 | 3 => v = .string so
 | 4 => v = .bool true
 | 5 => v = .bool true
 | 6 => v = .slice A9 ol9 c9
 | 7 => v = .int .i64 ol9
 | 8 => v = .pointer (some ⟨gt, 0, none⟩)
 | 9 => v = .pointer (some ⟨gt, 0, none⟩)
 | 10 => v = .int .i64 n
 | 11 => v = .bool true
 | 12 => v = .bool true
 | 13 => v = .bool true
 | 14 => v = .slice (some ⟨gl, ol, none⟩) fll cl
 | 15 => v = .int .i64 pll
 | 16 => v = .int .i64 ((pll : Int) + 1)
 | 17 => v = .pointer (some ⟨gl, (ol + (pll + 1)), none⟩)
 | 18 => v = .string sd
 | 19 => v = .string sd
 | 20 => v = .bool true
 | 21 => v = .bool true
 | 22 => v = .bool true
 | 23 => v = .slice (some ⟨gl, ol, none⟩) fll cl
 | 24 => v = .int .i64 pll
 | 25 => v = .int .i64 ((pll : Int) + 2)
 | 26 => v = .pointer (some ⟨gl, (ol + (pll + 2)), none⟩)
 | 27 => v = .string ((⟨#[119, 104, 121, 32]⟩ : ByteArray) ++ numS wy)
 | 28 => v = .pointer (some ⟨gt, 0, none⟩)
 | 29 => v = .agg #[.int .i64 n, .slice A1 csl n1, .slice A2 pll n2]
 | 30 => v = .int .i64 wy
 | 31 => v = .string (numS wy)
 | 32 => v = .string ((⟨#[119, 104, 121, 32]⟩ : ByteArray) ++ numS wy)
 | 33 => v = .bool true
 | 34 => v = .bool true
 | 35 => v = .bool true
 | 36 => v = .slice (some ⟨gl, ol, none⟩) fll cl
 | 37 => v = .int .i64 pll
 | 38 => v = .int .i64 ((pll : Int) + 3)
 | 39 => v = .pointer (some ⟨gl, (ol + (pll + 3)), none⟩)
 | 40 => v = .string ((⟨#[109, 111, 110, 101, 121, 32]⟩ : ByteArray) ++ numS m)
 | 41 => v = .pointer (some ⟨gt, 4, none⟩)
 | 42 => v = .int .i64 m
 | 43 => v = .string (numS m)
 | 44 => v = .string ((⟨#[109, 111, 110, 101, 121, 32]⟩ : ByteArray) ++ numS m)
 | 45 => v = .bool true
 | _ => True
theorem toL_em {a : ByteArray} (h : ¬ a = (⟨#[]⟩ : ByteArray)) : a.toList.isEmpty = false := by
 cases hq : a.toList.isEmpty with
 | false => rfl
 | true =>
  have h2 := List.isEmpty_iff.1 hq
  rw [ByteArray.toList_eq] at h2
  exact absurd (ba_ext (t := (⟨#[]⟩ : ByteArray)) h2) h
theorem why_tx (n : Int) : (⟨#[119, 104, 121, 32]⟩ : ByteArray) ++ numS n = lineS wWhy [n] := congrArg (fun x => x ++ numS n) (show (⟨#[119, 104, 121, 32]⟩ : ByteArray) = wWhy ++ spc1 from by decide)
theorem money_tx (n : Int) : (⟨#[109, 111, 110, 101, 121, 32]⟩ : ByteArray) ++ numS n = lineS wMoney [n] := congrArg (fun x => x ++ numS n) (show (⟨#[109, 111, 110, 101, 121, 32]⟩ : ByteArray) = wMoney ++ spc1 from by decide)
theorem str_cell {w : World} {g off c : Nat} {l : List ByteArray} (h : RdL cStr 1 w (.slice (some ⟨g, off, none⟩) l.length c) l) {k : Nat} {x : ByteArray} (hx : l[k]? = some x) : w.cell? ⟨g, off + k, none⟩ = some (.string x) := by
 obtain ⟨hk, he⟩ := List.getElem?_eq_some_iff.1 hx
 obtain ⟨g1, off1, hA, _, hc⟩ := h.cell cStr_len (by omega) hk
 obtain ⟨rfl, rfl⟩ : g = g1 ∧ off = off1 := by simpa using hA
 have k1 := hc 0 _ rfl
 simp only [Nat.add_zero, Nat.mul_one] at k1
 rw [k1, he]
set_option maxHeartbeats 16000000 in
set_option maxRecDepth 100000 in
theorem lawFnSummaries_any (A : Option Addr) (c : Nat) (bs : List Int) (w : World) (h : RdL cU8 1 w (.slice A bs.length c) bs) (hby : ∀ x ∈ bs, 0 ≤ x ∧ x ≤ 255) (ht : TabOk w) :
  Calls Tryz.prog 3 #[.slice A bs.length c] w fun e w' => e = .returned (.bool true) ∧ Below w.heap.size w w' := by
 have Hby := Lib.hid hby
 clear hby
 go_enter Tryz.func3, Tryz.ntmps3
 go_wp2_with (go_at_call 8; refine twoB (big_any _ _ _ _) (fun wb hc hb => ?_) (fun wb hc hb => ?_))
 ·go_ret
  exact ⟨rfl, hb⟩
 have hlen : bs.length ≤ 1048576 := by have := hc.out; simp at this; omega
 clear hc
 refine (drawActs_any A c bs wb (h.below hb) Hby.out hlen).mono ?_
 rintro e w1 ⟨n, m, cs, pl, ds, x1, x2, x3, va, acts, rfl, hrt0, hra, hth, h13, hacts, hb1⟩
 obtain ⟨⟨A1, n1, rfl⟩, ⟨A2, n2, rfl⟩, ⟨A3, n3, rfl⟩⟩ := hrt0.forms
 obtain ⟨A5, n5, rfl, _, _⟩ := hra.form
 have hal : Below w1.heap.size w1 (w1.alloc (.cells #[.int .i64 n, .slice A1 cs.length n1, .slice A2 pl.length n2, .slice A3 ds.length n3, .int .i64 m] 30)) := (Below.refl _ _).alloc (Nat.le_refl _) _
 have Lt : Loc (w1.alloc (.cells #[.int .i64 n, .slice A1 cs.length n1, .slice A2 pl.length n2, .slice A3 ds.length n3, .int .i64 m] 30)) w1.heap.size [.int .i64 n, .slice A1 cs.length n1, .slice A2 pl.length n2, .slice A3 ds.length n3, .int .i64 m] := Loc.new w1 #[.int .i64 n, .slice A1 cs.length n1, .slice A2 pl.length n2, .slice A3 ds.length n3, .int .i64 m] 30
 have hbw := bl_trans (bl_trans hb hb1) hal
 have hrt := hrt0.below hal
 have ht1 := ht.below hbw
 obtain ⟨⟨ho7, hob⟩, ⟨hp6, hpb⟩, ⟨hd60, hdb⟩, hwy, hm⟩ := fmt_ok hth
 have HOB : Hid (∀ x ∈ ordR n cs, 0 ≤ x ∧ x ≤ 1000000) := fun x hx => by have := hob x hx; omega
 have HDB : Hid (∀ x ∈ ds, 0 ≤ x ∧ x ≤ 1000000) := fun x hx => by have := hdb x hx; omega
 have HPB := Lib.hid hpb
 have HON : Hid (((ordR n cs).length : Int) = n) := ord_n hth
 have hFT := fun W hr hW => implFormatTheatre_any n m (.slice A1 cs.length n1) (.slice A2 pl.length n2) (.slice A3 ds.length n3) cs pl ds W hr hW
 rw [fmtT_t hth] at hFT
 have HFT := Lib.hid hFT
 have hfl := fmtL_len n m cs pl ds
 have hf0 := fmtL_0 n m cs pl ds
 have hfp := fun k hk => fmtL_p n m cs (pl := pl) ds (k := k) hk
 have hfe := fmtL_e n m cs pl ds
 generalize fmtL n m cs pl ds = fl at *
 have HFL := Lib.hid hfl
 have HF0 := Lib.hid hf0
 have HFP := Lib.hid hfp
 have HFE := Lib.hid hfe
 clear hob hdb hpb hth hrt0 hra hacts h13 hlen h hb hb1 ht hFT hf0 hfp hfe hfl
 go_upto_region 4 with (fail)
 obtain ⟨gt, hgt⟩ : ∃ gt, w1.heap.size = gt := ⟨_, rfl⟩
 rw [hgt] at Lt ⊢
 clear hal
 generalize w1.alloc (.cells #[.int .i64 n, .slice A1 cs.length n1, .slice A2 pl.length n2, .slice A3 ds.length n3, .int .i64 m] 30) = W1 at *
 clear hgt
 have t0 := (Lt 0 _ rfl).1
 have t1 := (Lt 1 _ rfl).1
 have t2 := (Lt 2 _ rfl).1
 have t3 := (Lt 3 _ rfl).1
 have t4 := (Lt 4 _ rfl).1
 go_wp2_with fail
 refine (HFT.out W1 hrt ht1).mono ?_
 rintro e w2 ⟨vl, rfl, ownl, hb2⟩
 have hrl : RdL cStr 1 w2 vl fl := RdS.of_own ownl
 obtain ⟨Al, cl, rfl, _, _⟩ := hrl.form
 obtain ⟨gl, ol, rfl, _, _⟩ := hrl.cell cStr_len (by omega) (show 0 < fl.length by have := HFL.out; omega)
 replace Lt := Lt.below hb2
 replace hrt := hrt.below hb2
 replace ht1 := ht1.below hb2
 replace hbw := bl_trans hbw hb2
 clear t0 t1 t2 t3 t4 ownl HFT hb2
 have t0 := (Lt 0 _ rfl).1
 have t1 := (Lt 1 _ rfl).1
 have t2 := (Lt 2 _ rfl).1
 have hne4 : ((fl.length : Int) != (pl.length : Int) + 4) = false := by have := HFL.out; rw [bne_eq_false_iff_eq]; omega
 have hw4 : IntKind.i64.wrap ((pl.length : Int) + 4) = (pl.length : Int) + 4 := IntWalk.i64_in _ (by omega)
 go_wp2_with fail
 refine (implOrderAfter_any n _ cs w2 hrt.1.1).mono ?_
 rintro e w9 ⟨v9, rfl, own9, hb9⟩
 have hr9 : RdL cInt 1 w9 v9 (ordR n cs) := RdS.of_own own9
 obtain ⟨A9, c9, rfl, _, _⟩ := hr9.form
 replace Lt := Lt.below hb9
 replace hrt := hrt.below hb9
 replace hrl := hrl.below hb9
 replace ht1 := ht1.below hb9
 replace hbw := bl_trans hbw hb9
 clear hb9 t0 t1 t2 own9 hne4 hw4
 skip
 go_wp2_with fail
 go_loopw [7, 9] (fun q i wr => ∃ k : Nat, k ≤ (ordR n cs).length ∧ i = .int .i64 k ∧ q = .string (lineS wOrder ((ordR n cs).take k)) ∧ (lineS wOrder ((ordR n cs).take k)).size ≤ 5 + 22 * k ∧ Below w9.heap.size w9 wr) (fun _ i _ => (ordR n cs).length - (intOf i).toNat)
 case atStart => exact ⟨0, Nat.zero_le _, rfl, rfl, by show (wOrder).size ≤ _; decide, Below.refl _ _⟩
 case round =>
  obtain ⟨k, hk, rfl, rfl, hq5, hb⟩ := hrel
  skip
  by_cases hlt : k < (ordR n cs).length
  ·obtain ⟨g, off, rfl, hg, hc⟩ := (hr9.below hb).cell cInt_len (by omega) hlt
   have k0 := hc 0 _ rfl
   simp only [Nat.add_zero, Nat.mul_one] at k0
   clear hc
   have HB := HOB.out (ordR n cs)[k] (List.getElem_mem hlt)
   have HSN : Hid (lineS wOrder ((ordR n cs).take (k + 1)) = addN (lineS wOrder ((ordR n cs).take k)) (ordR n cs)[k]) := foldl_take_succ _ _ _ hlt
   obtain ⟨x, hx⟩ := Int.eq_ofNat_of_zero_le HB.1
   rw [hx] at HB HSN k0
   clear hx
   have hxs := numS_size (x : Int) (by omega)
   have hC := Lib.hid (fun W hW => implFormatInt_any (x : Int) W (by omega) (by omega) hW)
   generalize lineS wOrder ((ordR n cs).take k) = q at *
   have hn1 : (q ++ (⟨#[32]⟩ : ByteArray)).size = q.size + 1 := by rw [ByteArray.size_append]; rfl
   have hz4 : ¬ 9223372036854775807 < q.size + 1 := by omega
   have hz5 : ¬ 9223372036854775807 < (q ++ (⟨#[32]⟩ : ByteArray)).size + (numS (x : Int)).size := by omega
   have hzz : (addN q (x : Int)).size ≤ 5 + 22 * (k + 1) := by
    unfold addN spc1
    rw [ByteArray.size_append, hn1]; omega
   clear HB hn1
   go_wp2_with fail
   refine (hC.out _ (ht1.below hb)).mono ?_
   rintro e w6 ⟨rfl, hb6⟩
   go_wp2_with fail
   go_roundw
   case rel => exact ⟨k + 1, by omega, by go_num, congrArg Value.string HSN.out.symm, by rw [HSN.out]; exact hzz, bl_trans hb hb6⟩
   case measure => simp [intOf]; omega
  ·obtain rfl : k = (ordR n cs).length := by omega
   rw [List.take_length]
   obtain ⟨so, hso⟩ : ∃ so, lineS wOrder (ordR n cs) = so := ⟨_, rfl⟩
   rw [hso]
   have hf00 := HF0.out
   rw [hso] at hf00
   have HF00 := Lib.hid hf00
   replace Lt := Lt.below hb
   replace hrt := hrt.below hb
   replace hrl := hrl.below hb
   replace ht1 := ht1.below hb
   replace hbw := bl_trans hbw hb
   clear hf00 hso HF0 hq5 hb hr9 HOB
   obtain ⟨wx, hwx⟩ : ∃ wx, wx = wr := ⟨_, rfl⟩
   subst hwx
   go_wp2_with fail
   go_loopw [10] (fun i wr => ∃ k : Nat, k ≤ pl.length ∧ i = .int .i64 k ∧ Below wx.heap.size wx wr) (fun i _ => pl.length - (intOf i).toNat)
   case atStart => exact ⟨0, Nat.zero_le _, rfl, Below.refl _ _⟩
   case round =>
    obtain ⟨k, hk, rfl, hb⟩ := hrel
    by_cases hlt : k < pl.length
    ·have LtK := Lt.below hb
     have t2 := (LtK 2 _ rfl).1
     obtain ⟨g, off, u, rfl, hg, k0, k1, hru⟩ := (hrt.1.2.below hb).cell hlt
     obtain ⟨Au, cu, rfl, _, _⟩ := hru.form
     have HPR := Lib.hid (HPB.out pl[k] (List.getElem_mem hlt))
     have HFK := Lib.hid (HFP.out k hlt)
     generalize pl[k] = r at *
     have hkl : r.1.length ≤ 7 := HPR.out.1.1
     have hfr := HPR.out.2
     have hns := numS_size r.2 (by omega)
     have HKB : Hid (∀ x ∈ r.1, 0 ≤ x ∧ x ≤ 1000000) := fun x hx => by have := HPR.out.1.2 x hx; omega
     have hkz := numsT_size (l := r.1) (fun x hx => by have := HKB.out x hx; omega)
     have hbP : Below wx.heap.size wx (wr.alloc (.cells #[.slice Au r.1.length cu, .int .i64 r.2] 39)) := hb.alloc hb.size _
     have LP : Loc (wr.alloc (.cells #[.slice Au r.1.length cu, .int .i64 r.2] 39)) wr.heap.size [.slice Au r.1.length cu, .int .i64 r.2] := Loc.new wr #[.slice Au r.1.length cu, .int .i64 r.2] 39
     have hruP := hru.below ((Below.refl _ _).alloc (Nat.le_refl _) _ : Below wr.heap.size wr (wr.alloc (.cells #[.slice Au r.1.length cu, .int .i64 r.2] 39)))
     clear HPR hru
     go_upto_region 18 with (fail)
     clear k0 k1 hb t2 LtK
     obtain ⟨gp, hgp⟩ : ∃ gp, wr.heap.size = gp := ⟨_, rfl⟩
     rw [hgp] at LP ⊢
     generalize wr.alloc (.cells #[.slice Au r.1.length cu, .int .i64 r.2] 39) = WP at *
     clear hgp
     have p0 := (LP 0 _ rfl).1
     go_wp2_with fail
     refine (implNumbersText_any _ r.1 WP hruP (by omega) HKB.out (ht1.below hbP)).mono ?_
     rintro e wK ⟨rfl, hb5⟩
     have hbK := bl_trans hbP hb5
     replace LP := LP.below hb5
     clear p0 hb5 hbP hruP
     have p1 := (LP 1 _ rfl).1
     have HT : Hid (∀ W5, Below wK.heap.size wK W5 → TabOk W5) := fun W5 h5 => (ht1.below hbK).below h5
     have l0' := str_cell (hrl.below hbK) HFK.out
     have hw1 : IntKind.i64.wrap ((k : Int) + 1) = (k : Int) + 1 := IntWalk.i64_in _ (by omega)
     have i1 : (k : Int) + 1 < (fl.length : Int) := by have := HFL.out; omega
     have i2 : (0 : Int) ≤ (k : Int) + 1 := by omega
     have i3 : ¬ (k : Int) + 1 < 0 := by omega
     have i4 : ((k : Int) + 1).toNat = k + 1 := by omega
     have hpn : ¬ 9223372036854775807 < 7 + (numS r.2).size := by omega
     have hps : ((⟨#[112, 108, 97, 121, 101, 114, 32]⟩ : ByteArray) ++ numS r.2).size = 7 + (numS r.2).size := by rw [ByteArray.size_append]; rfl
     have hpn2 : ¬ 9223372036854775807 < ((⟨#[112, 108, 97, 121, 101, 114, 32]⟩ : ByteArray) ++ numS r.2).size + 1 := by omega
     have hps2 : (((⟨#[112, 108, 97, 121, 101, 114, 32]⟩ : ByteArray) ++ numS r.2) ++ (⟨#[32]⟩ : ByteArray)).size = 8 + (numS r.2).size := by rw [ByteArray.size_append, hps]; show 7 + _ + 1 = _; omega
     by_cases hl0 : r.1 = []
     ·have HKN : Hid (plyT r = ((((⟨#[112, 108, 97, 121, 101, 114, 32]⟩ : ByteArray) ++ numS r.2) ++ (⟨#[32]⟩ : ByteArray)) ++ (⟨#[45]⟩ : ByteArray))) := by
       show (((wPlayer ++ numS r.2) ++ spc1) ++ knowsT r.1) = _
       rw [show knowsT r.1 = wDash from if_pos hl0]; rfl
      have l0 : wK.cell? ⟨gl, ol + (k + 1), none⟩ = some (.string ((((⟨#[112, 108, 97, 121, 101, 114, 32]⟩ : ByteArray) ++ numS r.2) ++ (⟨#[32]⟩ : ByteArray)) ++ (⟨#[45]⟩ : ByteArray))) := by rw [l0', HKN.out]
      have hpn3 : ¬ 9223372036854775807 < (((⟨#[112, 108, 97, 121, 101, 114, 32]⟩ : ByteArray) ++ numS r.2) ++ (⟨#[32]⟩ : ByteArray)).size + 1 := by omega
      clear l0' hps hps2 hkz
      rw [show numsT r.1 = (⟨#[]⟩ : ByteArray) from by rw [hl0]; rfl]
      go_upto_region 21 with (fail)
      refine region_made (n := 146) 12 (by kernel_rfl) rfl (by kernel_rfl) (fun w' => Below wK.heap.size wK w') (fun _ => 0) (pra gl ol cl gp k fl.length r (⟨#[45]⟩ : ByteArray)) (Below.refl _ _).drew ?_ ?_ ?_
      ·intro i v gh gh' w1 w2 hp hJ hb' hg
       match i, hp with
       | 0, hp => exact hp
       | 1, hp => exact hp
       | 2, hp => exact hp
       | 3, hp => exact hp
       | 4, hp => exact hp
       | 5, hp => exact hp
       | 6, hp => exact hp
       | 7, hp => exact hp
       | 8, hp => exact hp
       | 9, hp => exact hp
       | 10, hp => exact hp
       | 11, hp => exact hp
       | _ + 12, _ => trivial
      ·refine ⟨?_, ?_, ?_, ?_, ?_, ?_, ?_, ?_, ?_, ?_, ?_, ?_, trivial⟩
       ·intro a gh w5 hag hJ hd
        have ag5 : a.tmps.getD 5 undef = .slice (some ⟨gl, ol, none⟩) fl.length cl := hag.kept 5 (by kernel_rfl)
        clear hag
        go_wp2_with fail
        exact ⟨rfl, _, rfl, rfl, hJ, Below.refl _ _⟩
       ·intro a gh w5 hag hJ hd
        have ag10 : a.tmps.getD 10 undef = .int .i64 k := hag.kept 10 (by kernel_rfl)
        clear hag
        go_wp2_with fail
        exact ⟨rfl, _, rfl, rfl, hJ, Below.refl _ _⟩
       ·intro a gh w5 hag hJ hd
        clear hag
        have e0 : a.tmps.getD 71 undef = .int .i64 k := hd 1 (by kernel_rfl) _ rfl
        go_wp2_with fail
        exact ⟨rfl, _, rfl, rfl, hJ, Below.refl _ _⟩
       ·intro a gh w5 hag hJ hd
        clear hag
        have e0 : a.tmps.getD 70 undef = .slice (some ⟨gl, ol, none⟩) fl.length cl := hd 0 (by kernel_rfl) _ rfl
        have e1 : a.tmps.getD 72 undef = .int .i64 ((k : Int) + 1) := hd 2 (by kernel_rfl) _ rfl
        go_wp2_with fail
        exact ⟨rfl, _, rfl, rfl, hJ, Below.refl _ _⟩
       ·intro a gh w5 hag hJ hd
        clear hag
        have e0 : a.tmps.getD 73 undef = .pointer (some ⟨gl, (ol + (k + 1)), none⟩) := hd 3 (by kernel_rfl) _ rfl
        have k0 := carry hJ l0
        go_wp2_with fail
        exact ⟨rfl, _, rfl, rfl, hJ, Below.refl _ _⟩
       ·intro a gh w5 hag hJ hd
        have ag11 : a.tmps.getD 11 undef = .pointer (some ⟨gp, 0, none⟩) := hag.kept 11 (by kernel_rfl)
        clear hag
        go_wp2_with fail
        exact ⟨rfl, _, rfl, rfl, hJ, Below.refl _ _⟩
       ·intro a gh w5 hag hJ hd
        clear hag
        have e0 : a.tmps.getD 75 undef = .pointer (some ⟨gp, 1, none⟩) := hd 5 (by kernel_rfl) _ rfl
        have k0 := carry hJ p1
        go_wp2_with fail
        exact ⟨rfl, _, rfl, rfl, hJ, Below.refl _ _⟩
       ·intro a gh w5 hag hJ hd
        clear hag
        have e0 : a.tmps.getD 76 undef = .int .i64 r.2 := hd 6 (by kernel_rfl) _ rfl
        go_wp2_with fail
        refine (implFormatInt_any r.2 w5 (by omega) (by omega) (HT.out w5 hJ)).mono ?_
        rintro e w6 ⟨rfl, hb6⟩
        go_wp2_with fail
        exact ⟨rfl, _, rfl, rfl, bl_trans hJ hb6, hb6⟩
       ·intro a gh w5 hag hJ hd
        clear hag
        have e0 : a.tmps.getD 77 undef = .string (numS r.2) := hd 7 (by kernel_rfl) _ rfl
        go_wp2_with fail
        exact ⟨rfl, _, rfl, rfl, hJ, Below.refl _ _⟩
       ·intro a gh w5 hag hJ hd
        clear hag
        have e0 : a.tmps.getD 78 undef = .string ((⟨#[112, 108, 97, 121, 101, 114, 32]⟩ : ByteArray) ++ numS r.2) := hd 8 (by kernel_rfl) _ rfl
        go_wp2_with fail
        exact ⟨rfl, _, rfl, rfl, hJ, Below.refl _ _⟩
       ·intro a gh w5 hag hJ hd
        have ag12 : a.tmps.getD 12 undef = .string (⟨#[45]⟩ : ByteArray) := hag.kept 12 (by kernel_rfl)
        clear hag
        go_wp2_with fail
        exact ⟨rfl, _, rfl, rfl, hJ, Below.refl _ _⟩
       ·intro a gh w5 hag hJ hd
        clear hag
        have e0 : a.tmps.getD 79 undef = .string (((⟨#[112, 108, 97, 121, 101, 114, 32]⟩ : ByteArray) ++ numS r.2) ++ (⟨#[32]⟩ : ByteArray)) := hd 9 (by kernel_rfl) _ rfl
        have e1 : a.tmps.getD 80 undef = .string (⟨#[45]⟩ : ByteArray) := hd 10 (by kernel_rfl) _ rfl
        go_wp2_with fail
        exact ⟨rfl, _, rfl, rfl, hJ, Below.refl _ _⟩
      ·intro a gh w5 hag hJ hd
       have ag0 := hag.kept 0 (by kernel_rfl)
       have ag1 := hag.kept 1 (by kernel_rfl)
       have ag2 := hag.kept 2 (by kernel_rfl)
       have ag3 := hag.kept 3 (by kernel_rfl)
       have ag4 := hag.kept 4 (by kernel_rfl)
       have ag5 : a.tmps.getD 5 undef = .slice (some ⟨gl, ol, none⟩) fl.length cl := hag.kept 5 (by kernel_rfl)
       have ag6 := hag.kept 6 (by kernel_rfl)
       have ag7 := hag.kept 7 (by kernel_rfl)
       have ag8 := hag.kept 8 (by kernel_rfl)
       have ag9 := hag.kept 9 (by kernel_rfl)
       have ag10 : a.tmps.getD 10 undef = .int .i64 k := hag.kept 10 (by kernel_rfl)
       have ag11 : a.tmps.getD 11 undef = .pointer (some ⟨gp, 0, none⟩) := hag.kept 11 (by kernel_rfl)
       have ag12 : a.tmps.getD 12 undef = .string (⟨#[45]⟩ : ByteArray) := hag.kept 12 (by kernel_rfl)
       have ag13 := hag.kept 13 (by kernel_rfl)
       have ag14 := hag.kept 14 (by kernel_rfl)
       have ag15 := hag.kept 15 (by kernel_rfl)
       have ag16 := hag.kept 16 (by kernel_rfl)
       have ag17 := hag.kept 17 (by kernel_rfl)
       have ag18 := hag.kept 18 (by kernel_rfl)
       have ag19 := hag.kept 19 (by kernel_rfl)
       have ag20 := hag.kept 20 (by kernel_rfl)
       have ag21 := hag.kept 21 (by kernel_rfl)
       have ag22 := hag.kept 22 (by kernel_rfl)
       have ag23 := hag.kept 23 (by kernel_rfl)
       have ag24 := hag.kept 24 (by kernel_rfl)
       have ag25 := hag.kept 25 (by kernel_rfl)
       have ag26 := hag.kept 26 (by kernel_rfl)
       have ag27 := hag.kept 27 (by kernel_rfl)
       have ag28 := hag.kept 28 (by kernel_rfl)
       have ag29 := hag.kept 29 (by kernel_rfl)
       have ag30 := hag.kept 30 (by kernel_rfl)
       have ag31 := hag.kept 31 (by kernel_rfl)
       have ag32 := hag.kept 32 (by kernel_rfl)
       have ag33 := hag.kept 33 (by kernel_rfl)
       have ag34 := hag.kept 34 (by kernel_rfl)
       have ag35 := hag.kept 35 (by kernel_rfl)
       have ag36 := hag.kept 36 (by kernel_rfl)
       have ag37 := hag.kept 37 (by kernel_rfl)
       have ag38 := hag.kept 38 (by kernel_rfl)
       have ag39 := hag.kept 39 (by kernel_rfl)
       have ag40 := hag.kept 40 (by kernel_rfl)
       have ag41 := hag.kept 41 (by kernel_rfl)
       have ag42 := hag.kept 42 (by kernel_rfl)
       have ag43 := hag.kept 43 (by kernel_rfl)
       have ag44 := hag.kept 44 (by kernel_rfl)
       have ag45 := hag.kept 45 (by kernel_rfl)
       have ag46 := hag.kept 46 (by kernel_rfl)
       have ag47 := hag.kept 47 (by kernel_rfl)
       have ag48 := hag.kept 48 (by kernel_rfl)
       have ag49 := hag.kept 49 (by kernel_rfl)
       have ag50 := hag.kept 50 (by kernel_rfl)
       have ag51 := hag.kept 51 (by kernel_rfl)
       have ag52 := hag.kept 52 (by kernel_rfl)
       have ag53 := hag.kept 53 (by kernel_rfl)
       have ag54 := hag.kept 54 (by kernel_rfl)
       have ag55 := hag.kept 55 (by kernel_rfl)
       have ag56 := hag.kept 56 (by kernel_rfl)
       have ag57 := hag.kept 57 (by kernel_rfl)
       have ag58 := hag.kept 58 (by kernel_rfl)
       have ag59 := hag.kept 59 (by kernel_rfl)
       have ag60 := hag.kept 60 (by kernel_rfl)
       have ag61 := hag.kept 61 (by kernel_rfl)
       have ag62 := hag.kept 62 (by kernel_rfl)
       have ag63 := hag.kept 63 (by kernel_rfl)
       have ag64 := hag.kept 64 (by kernel_rfl)
       have ag65 := hag.kept 65 (by kernel_rfl)
       have ag66 := hag.kept 66 (by kernel_rfl)
       have ag67 := hag.kept 67 (by kernel_rfl)
       have ag68 := hag.kept 68 (by kernel_rfl)
       have ag69 := hag.kept 69 (by kernel_rfl)
       have ag83 := hag.kept 83 (by kernel_rfl)
       have ag84 := hag.kept 84 (by kernel_rfl)
       have ag85 := hag.kept 85 (by kernel_rfl)
       have ag86 := hag.kept 86 (by kernel_rfl)
       have ag87 := hag.kept 87 (by kernel_rfl)
       have ag88 := hag.kept 88 (by kernel_rfl)
       have ag89 := hag.kept 89 (by kernel_rfl)
       have ag90 := hag.kept 90 (by kernel_rfl)
       have ag91 := hag.kept 91 (by kernel_rfl)
       have ag92 := hag.kept 92 (by kernel_rfl)
       have ag93 := hag.kept 93 (by kernel_rfl)
       have ag94 := hag.kept 94 (by kernel_rfl)
       have ag95 := hag.kept 95 (by kernel_rfl)
       have ag96 := hag.kept 96 (by kernel_rfl)
       have ag97 := hag.kept 97 (by kernel_rfl)
       have ag98 := hag.kept 98 (by kernel_rfl)
       have ag99 := hag.kept 99 (by kernel_rfl)
       have ag100 := hag.kept 100 (by kernel_rfl)
       have ag101 := hag.kept 101 (by kernel_rfl)
       have ag102 := hag.kept 102 (by kernel_rfl)
       have ag103 := hag.kept 103 (by kernel_rfl)
       have ag104 := hag.kept 104 (by kernel_rfl)
       have ag105 := hag.kept 105 (by kernel_rfl)
       have ag106 := hag.kept 106 (by kernel_rfl)
       have ag107 := hag.kept 107 (by kernel_rfl)
       have ag108 := hag.kept 108 (by kernel_rfl)
       have ag109 := hag.kept 109 (by kernel_rfl)
       have ag110 := hag.kept 110 (by kernel_rfl)
       have ag111 := hag.kept 111 (by kernel_rfl)
       have ag112 := hag.kept 112 (by kernel_rfl)
       have ag113 := hag.kept 113 (by kernel_rfl)
       have ag114 := hag.kept 114 (by kernel_rfl)
       have ag115 := hag.kept 115 (by kernel_rfl)
       have ag116 := hag.kept 116 (by kernel_rfl)
       have ag117 := hag.kept 117 (by kernel_rfl)
       have ag118 := hag.kept 118 (by kernel_rfl)
       have ag119 := hag.kept 119 (by kernel_rfl)
       have ag120 := hag.kept 120 (by kernel_rfl)
       have ag121 := hag.kept 121 (by kernel_rfl)
       have ag122 := hag.kept 122 (by kernel_rfl)
       have ag123 := hag.kept 123 (by kernel_rfl)
       have ag124 := hag.kept 124 (by kernel_rfl)
       have ag125 := hag.kept 125 (by kernel_rfl)
       have ag126 := hag.kept 126 (by kernel_rfl)
       have ag127 := hag.kept 127 (by kernel_rfl)
       have ag128 := hag.kept 128 (by kernel_rfl)
       have ag129 := hag.kept 129 (by kernel_rfl)
       have ag130 := hag.kept 130 (by kernel_rfl)
       have ag131 := hag.kept 131 (by kernel_rfl)
       have ag132 := hag.kept 132 (by kernel_rfl)
       have ag133 := hag.kept 133 (by kernel_rfl)
       have ag134 := hag.kept 134 (by kernel_rfl)
       have ag135 := hag.kept 135 (by kernel_rfl)
       have ag136 := hag.kept 136 (by kernel_rfl)
       have ag137 := hag.kept 137 (by kernel_rfl)
       have ag138 := hag.kept 138 (by kernel_rfl)
       have ag139 := hag.kept 139 (by kernel_rfl)
       have ag140 := hag.kept 140 (by kernel_rfl)
       have ag141 := hag.kept 141 (by kernel_rfl)
       have ag142 := hag.kept 142 (by kernel_rfl)
       have ag143 := hag.kept 143 (by kernel_rfl)
       have ag144 := hag.kept 144 (by kernel_rfl)
       have ag145 := hag.kept 145 (by kernel_rfl)
       rw [act146ra hag.size hag.defers]
       clear hag
       have e74 : a.tmps.getD 74 undef = .string ((((⟨#[112, 108, 97, 121, 101, 114, 32]⟩ : ByteArray) ++ numS r.2) ++ (⟨#[32]⟩ : ByteArray)) ++ (⟨#[45]⟩ : ByteArray)) := hd 4 (by kernel_rfl) _ rfl
       have e81 : a.tmps.getD 81 undef = .string ((((⟨#[112, 108, 97, 121, 101, 114, 32]⟩ : ByteArray) ++ numS r.2) ++ (⟨#[32]⟩ : ByteArray)) ++ (⟨#[45]⟩ : ByteArray)) := hd 11 (by kernel_rfl) _ rfl
       rw [ag0, ag1, ag2, ag3, ag4, ag5, ag6, ag7, ag8, ag9, ag10, ag11, ag12, ag13, ag14, ag15, ag16, ag17, ag18, ag19, ag20, ag21, ag22, ag23, ag24, ag25, ag26, ag27, ag28, ag29, ag30, ag31, ag32, ag33, ag34, ag35, ag36, ag37, ag38, ag39, ag40, ag41, ag42, ag43, ag44, ag45, ag46, ag47, ag48, ag49, ag50, ag51, ag52, ag53, ag54, ag55, ag56, ag57, ag58, ag59, ag60, ag61, ag62, ag63, ag64, ag65, ag66, ag67, ag68, ag69, ag83, ag84, ag85, ag86, ag87, ag88, ag89, ag90, ag91, ag92, ag93, ag94, ag95, ag96, ag97, ag98, ag99, ag100, ag101, ag102, ag103, ag104, ag105, ag106, ag107, ag108, ag109, ag110, ag111, ag112, ag113, ag114, ag115, ag116, ag117, ag118, ag119, ag120, ag121, ag122, ag123, ag124, ag125, ag126, ag127, ag128, ag129, ag130, ag131, ag132, ag133, ag134, ag135, ag136, ag137, ag138, ag139, ag140, ag141, ag142, ag143, ag144, ag145, e74, e81]
       change wpList _ _ _ [_] _ _
       clear hd
       go_wp2_with fail
       go_roundw
       case rel => exact ⟨k + 1, by omega, by go_num, bl_trans hbK hJ⟩
       case measure => simp [intOf]; omega
     ·have HKN : Hid (plyT r = ((((⟨#[112, 108, 97, 121, 101, 114, 32]⟩ : ByteArray) ++ numS r.2) ++ (⟨#[32]⟩ : ByteArray)) ++ numsT r.1)) := by
       show (((wPlayer ++ numS r.2) ++ spc1) ++ knowsT r.1) = _
       rw [show knowsT r.1 = numsT r.1 from if_neg hl0]; rfl
      have hne : (numsT r.1).toList.isEmpty = false := toL_em (numsT_ne hl0 (fun x hx => (HKB.out x hx).1))
      have hpn4 : ¬ 9223372036854775807 < 7 + (numS r.2).size + 1 + (numsT r.1).size := by omega
      have l0 : wK.cell? ⟨gl, ol + (k + 1), none⟩ = some (.string ((((⟨#[112, 108, 97, 121, 101, 114, 32]⟩ : ByteArray) ++ numS r.2) ++ (⟨#[32]⟩ : ByteArray)) ++ numsT r.1)) := by rw [l0', HKN.out]
      have hpn3 : ¬ 9223372036854775807 < (((⟨#[112, 108, 97, 121, 101, 114, 32]⟩ : ByteArray) ++ numS r.2) ++ (⟨#[32]⟩ : ByteArray)).size + (numsT r.1).size := by omega
      clear l0' hps hps2 hkz HKN
      generalize numsT r.1 = kn at *
      go_upto_region 21 with (fail)
      refine region_made (n := 146) 12 (by kernel_rfl) rfl (by kernel_rfl) (fun w' => Below wK.heap.size wK w') (fun _ => 0) (prb gl ol cl gp k fl.length r kn) (Below.refl _ _).drew ?_ ?_ ?_
      ·intro i v gh gh' w1 w2 hp hJ hb' hg
       match i, hp with
       | 0, hp => exact hp
       | 1, hp => exact hp
       | 2, hp => exact hp
       | 3, hp => exact hp
       | 4, hp => exact hp
       | 5, hp => exact hp
       | 6, hp => exact hp
       | 7, hp => exact hp
       | 8, hp => exact hp
       | 9, hp => exact hp
       | 10, hp => exact hp
       | 11, hp => exact hp
       | _ + 12, _ => trivial
      ·refine ⟨?_, ?_, ?_, ?_, ?_, ?_, ?_, ?_, ?_, ?_, ?_, ?_, trivial⟩
       ·intro a gh w5 hag hJ hd
        have ag5 : a.tmps.getD 5 undef = .slice (some ⟨gl, ol, none⟩) fl.length cl := hag.kept 5 (by kernel_rfl)
        clear hag
        go_wp2_with fail
        exact ⟨rfl, _, rfl, rfl, hJ, Below.refl _ _⟩
       ·intro a gh w5 hag hJ hd
        have ag10 : a.tmps.getD 10 undef = .int .i64 k := hag.kept 10 (by kernel_rfl)
        clear hag
        go_wp2_with fail
        exact ⟨rfl, _, rfl, rfl, hJ, Below.refl _ _⟩
       ·intro a gh w5 hag hJ hd
        clear hag
        have e0 : a.tmps.getD 71 undef = .int .i64 k := hd 1 (by kernel_rfl) _ rfl
        go_wp2_with fail
        exact ⟨rfl, _, rfl, rfl, hJ, Below.refl _ _⟩
       ·intro a gh w5 hag hJ hd
        clear hag
        have e0 : a.tmps.getD 70 undef = .slice (some ⟨gl, ol, none⟩) fl.length cl := hd 0 (by kernel_rfl) _ rfl
        have e1 : a.tmps.getD 72 undef = .int .i64 ((k : Int) + 1) := hd 2 (by kernel_rfl) _ rfl
        go_wp2_with fail
        exact ⟨rfl, _, rfl, rfl, hJ, Below.refl _ _⟩
       ·intro a gh w5 hag hJ hd
        clear hag
        have e0 : a.tmps.getD 73 undef = .pointer (some ⟨gl, (ol + (k + 1)), none⟩) := hd 3 (by kernel_rfl) _ rfl
        have k0 := carry hJ l0
        go_wp2_with fail
        exact ⟨rfl, _, rfl, rfl, hJ, Below.refl _ _⟩
       ·intro a gh w5 hag hJ hd
        have ag11 : a.tmps.getD 11 undef = .pointer (some ⟨gp, 0, none⟩) := hag.kept 11 (by kernel_rfl)
        clear hag
        go_wp2_with fail
        exact ⟨rfl, _, rfl, rfl, hJ, Below.refl _ _⟩
       ·intro a gh w5 hag hJ hd
        clear hag
        have e0 : a.tmps.getD 75 undef = .pointer (some ⟨gp, 1, none⟩) := hd 5 (by kernel_rfl) _ rfl
        have k0 := carry hJ p1
        go_wp2_with fail
        exact ⟨rfl, _, rfl, rfl, hJ, Below.refl _ _⟩
       ·intro a gh w5 hag hJ hd
        clear hag
        have e0 : a.tmps.getD 76 undef = .int .i64 r.2 := hd 6 (by kernel_rfl) _ rfl
        go_wp2_with fail
        refine (implFormatInt_any r.2 w5 (by omega) (by omega) (HT.out w5 hJ)).mono ?_
        rintro e w6 ⟨rfl, hb6⟩
        go_wp2_with fail
        exact ⟨rfl, _, rfl, rfl, bl_trans hJ hb6, hb6⟩
       ·intro a gh w5 hag hJ hd
        clear hag
        have e0 : a.tmps.getD 77 undef = .string (numS r.2) := hd 7 (by kernel_rfl) _ rfl
        go_wp2_with fail
        exact ⟨rfl, _, rfl, rfl, hJ, Below.refl _ _⟩
       ·intro a gh w5 hag hJ hd
        clear hag
        have e0 : a.tmps.getD 78 undef = .string ((⟨#[112, 108, 97, 121, 101, 114, 32]⟩ : ByteArray) ++ numS r.2) := hd 8 (by kernel_rfl) _ rfl
        go_wp2_with fail
        exact ⟨rfl, _, rfl, rfl, hJ, Below.refl _ _⟩
       ·intro a gh w5 hag hJ hd
        have ag12 : a.tmps.getD 12 undef = .string kn := hag.kept 12 (by kernel_rfl)
        clear hag
        go_wp2_with fail
        exact ⟨rfl, _, rfl, rfl, hJ, Below.refl _ _⟩
       ·intro a gh w5 hag hJ hd
        clear hag
        have e0 : a.tmps.getD 79 undef = .string (((⟨#[112, 108, 97, 121, 101, 114, 32]⟩ : ByteArray) ++ numS r.2) ++ (⟨#[32]⟩ : ByteArray)) := hd 9 (by kernel_rfl) _ rfl
        have e1 : a.tmps.getD 80 undef = .string kn := hd 10 (by kernel_rfl) _ rfl
        go_wp2_with fail
        exact ⟨rfl, _, rfl, rfl, hJ, Below.refl _ _⟩
      ·intro a gh w5 hag hJ hd
       have ag0 := hag.kept 0 (by kernel_rfl)
       have ag1 := hag.kept 1 (by kernel_rfl)
       have ag2 := hag.kept 2 (by kernel_rfl)
       have ag3 := hag.kept 3 (by kernel_rfl)
       have ag4 := hag.kept 4 (by kernel_rfl)
       have ag5 : a.tmps.getD 5 undef = .slice (some ⟨gl, ol, none⟩) fl.length cl := hag.kept 5 (by kernel_rfl)
       have ag6 := hag.kept 6 (by kernel_rfl)
       have ag7 := hag.kept 7 (by kernel_rfl)
       have ag8 := hag.kept 8 (by kernel_rfl)
       have ag9 := hag.kept 9 (by kernel_rfl)
       have ag10 : a.tmps.getD 10 undef = .int .i64 k := hag.kept 10 (by kernel_rfl)
       have ag11 : a.tmps.getD 11 undef = .pointer (some ⟨gp, 0, none⟩) := hag.kept 11 (by kernel_rfl)
       have ag12 : a.tmps.getD 12 undef = .string kn := hag.kept 12 (by kernel_rfl)
       have ag13 := hag.kept 13 (by kernel_rfl)
       have ag14 := hag.kept 14 (by kernel_rfl)
       have ag15 := hag.kept 15 (by kernel_rfl)
       have ag16 := hag.kept 16 (by kernel_rfl)
       have ag17 := hag.kept 17 (by kernel_rfl)
       have ag18 := hag.kept 18 (by kernel_rfl)
       have ag19 := hag.kept 19 (by kernel_rfl)
       have ag20 := hag.kept 20 (by kernel_rfl)
       have ag21 := hag.kept 21 (by kernel_rfl)
       have ag22 := hag.kept 22 (by kernel_rfl)
       have ag23 := hag.kept 23 (by kernel_rfl)
       have ag24 := hag.kept 24 (by kernel_rfl)
       have ag25 := hag.kept 25 (by kernel_rfl)
       have ag26 := hag.kept 26 (by kernel_rfl)
       have ag27 := hag.kept 27 (by kernel_rfl)
       have ag28 := hag.kept 28 (by kernel_rfl)
       have ag29 := hag.kept 29 (by kernel_rfl)
       have ag30 := hag.kept 30 (by kernel_rfl)
       have ag31 := hag.kept 31 (by kernel_rfl)
       have ag32 := hag.kept 32 (by kernel_rfl)
       have ag33 := hag.kept 33 (by kernel_rfl)
       have ag34 := hag.kept 34 (by kernel_rfl)
       have ag35 := hag.kept 35 (by kernel_rfl)
       have ag36 := hag.kept 36 (by kernel_rfl)
       have ag37 := hag.kept 37 (by kernel_rfl)
       have ag38 := hag.kept 38 (by kernel_rfl)
       have ag39 := hag.kept 39 (by kernel_rfl)
       have ag40 := hag.kept 40 (by kernel_rfl)
       have ag41 := hag.kept 41 (by kernel_rfl)
       have ag42 := hag.kept 42 (by kernel_rfl)
       have ag43 := hag.kept 43 (by kernel_rfl)
       have ag44 := hag.kept 44 (by kernel_rfl)
       have ag45 := hag.kept 45 (by kernel_rfl)
       have ag46 := hag.kept 46 (by kernel_rfl)
       have ag47 := hag.kept 47 (by kernel_rfl)
       have ag48 := hag.kept 48 (by kernel_rfl)
       have ag49 := hag.kept 49 (by kernel_rfl)
       have ag50 := hag.kept 50 (by kernel_rfl)
       have ag51 := hag.kept 51 (by kernel_rfl)
       have ag52 := hag.kept 52 (by kernel_rfl)
       have ag53 := hag.kept 53 (by kernel_rfl)
       have ag54 := hag.kept 54 (by kernel_rfl)
       have ag55 := hag.kept 55 (by kernel_rfl)
       have ag56 := hag.kept 56 (by kernel_rfl)
       have ag57 := hag.kept 57 (by kernel_rfl)
       have ag58 := hag.kept 58 (by kernel_rfl)
       have ag59 := hag.kept 59 (by kernel_rfl)
       have ag60 := hag.kept 60 (by kernel_rfl)
       have ag61 := hag.kept 61 (by kernel_rfl)
       have ag62 := hag.kept 62 (by kernel_rfl)
       have ag63 := hag.kept 63 (by kernel_rfl)
       have ag64 := hag.kept 64 (by kernel_rfl)
       have ag65 := hag.kept 65 (by kernel_rfl)
       have ag66 := hag.kept 66 (by kernel_rfl)
       have ag67 := hag.kept 67 (by kernel_rfl)
       have ag68 := hag.kept 68 (by kernel_rfl)
       have ag69 := hag.kept 69 (by kernel_rfl)
       have ag83 := hag.kept 83 (by kernel_rfl)
       have ag84 := hag.kept 84 (by kernel_rfl)
       have ag85 := hag.kept 85 (by kernel_rfl)
       have ag86 := hag.kept 86 (by kernel_rfl)
       have ag87 := hag.kept 87 (by kernel_rfl)
       have ag88 := hag.kept 88 (by kernel_rfl)
       have ag89 := hag.kept 89 (by kernel_rfl)
       have ag90 := hag.kept 90 (by kernel_rfl)
       have ag91 := hag.kept 91 (by kernel_rfl)
       have ag92 := hag.kept 92 (by kernel_rfl)
       have ag93 := hag.kept 93 (by kernel_rfl)
       have ag94 := hag.kept 94 (by kernel_rfl)
       have ag95 := hag.kept 95 (by kernel_rfl)
       have ag96 := hag.kept 96 (by kernel_rfl)
       have ag97 := hag.kept 97 (by kernel_rfl)
       have ag98 := hag.kept 98 (by kernel_rfl)
       have ag99 := hag.kept 99 (by kernel_rfl)
       have ag100 := hag.kept 100 (by kernel_rfl)
       have ag101 := hag.kept 101 (by kernel_rfl)
       have ag102 := hag.kept 102 (by kernel_rfl)
       have ag103 := hag.kept 103 (by kernel_rfl)
       have ag104 := hag.kept 104 (by kernel_rfl)
       have ag105 := hag.kept 105 (by kernel_rfl)
       have ag106 := hag.kept 106 (by kernel_rfl)
       have ag107 := hag.kept 107 (by kernel_rfl)
       have ag108 := hag.kept 108 (by kernel_rfl)
       have ag109 := hag.kept 109 (by kernel_rfl)
       have ag110 := hag.kept 110 (by kernel_rfl)
       have ag111 := hag.kept 111 (by kernel_rfl)
       have ag112 := hag.kept 112 (by kernel_rfl)
       have ag113 := hag.kept 113 (by kernel_rfl)
       have ag114 := hag.kept 114 (by kernel_rfl)
       have ag115 := hag.kept 115 (by kernel_rfl)
       have ag116 := hag.kept 116 (by kernel_rfl)
       have ag117 := hag.kept 117 (by kernel_rfl)
       have ag118 := hag.kept 118 (by kernel_rfl)
       have ag119 := hag.kept 119 (by kernel_rfl)
       have ag120 := hag.kept 120 (by kernel_rfl)
       have ag121 := hag.kept 121 (by kernel_rfl)
       have ag122 := hag.kept 122 (by kernel_rfl)
       have ag123 := hag.kept 123 (by kernel_rfl)
       have ag124 := hag.kept 124 (by kernel_rfl)
       have ag125 := hag.kept 125 (by kernel_rfl)
       have ag126 := hag.kept 126 (by kernel_rfl)
       have ag127 := hag.kept 127 (by kernel_rfl)
       have ag128 := hag.kept 128 (by kernel_rfl)
       have ag129 := hag.kept 129 (by kernel_rfl)
       have ag130 := hag.kept 130 (by kernel_rfl)
       have ag131 := hag.kept 131 (by kernel_rfl)
       have ag132 := hag.kept 132 (by kernel_rfl)
       have ag133 := hag.kept 133 (by kernel_rfl)
       have ag134 := hag.kept 134 (by kernel_rfl)
       have ag135 := hag.kept 135 (by kernel_rfl)
       have ag136 := hag.kept 136 (by kernel_rfl)
       have ag137 := hag.kept 137 (by kernel_rfl)
       have ag138 := hag.kept 138 (by kernel_rfl)
       have ag139 := hag.kept 139 (by kernel_rfl)
       have ag140 := hag.kept 140 (by kernel_rfl)
       have ag141 := hag.kept 141 (by kernel_rfl)
       have ag142 := hag.kept 142 (by kernel_rfl)
       have ag143 := hag.kept 143 (by kernel_rfl)
       have ag144 := hag.kept 144 (by kernel_rfl)
       have ag145 := hag.kept 145 (by kernel_rfl)
       rw [act146ra hag.size hag.defers]
       clear hag
       have e74 : a.tmps.getD 74 undef = .string ((((⟨#[112, 108, 97, 121, 101, 114, 32]⟩ : ByteArray) ++ numS r.2) ++ (⟨#[32]⟩ : ByteArray)) ++ kn) := hd 4 (by kernel_rfl) _ rfl
       have e81 : a.tmps.getD 81 undef = .string ((((⟨#[112, 108, 97, 121, 101, 114, 32]⟩ : ByteArray) ++ numS r.2) ++ (⟨#[32]⟩ : ByteArray)) ++ kn) := hd 11 (by kernel_rfl) _ rfl
       rw [ag0, ag1, ag2, ag3, ag4, ag5, ag6, ag7, ag8, ag9, ag10, ag11, ag12, ag13, ag14, ag15, ag16, ag17, ag18, ag19, ag20, ag21, ag22, ag23, ag24, ag25, ag26, ag27, ag28, ag29, ag30, ag31, ag32, ag33, ag34, ag35, ag36, ag37, ag38, ag39, ag40, ag41, ag42, ag43, ag44, ag45, ag46, ag47, ag48, ag49, ag50, ag51, ag52, ag53, ag54, ag55, ag56, ag57, ag58, ag59, ag60, ag61, ag62, ag63, ag64, ag65, ag66, ag67, ag68, ag69, ag83, ag84, ag85, ag86, ag87, ag88, ag89, ag90, ag91, ag92, ag93, ag94, ag95, ag96, ag97, ag98, ag99, ag100, ag101, ag102, ag103, ag104, ag105, ag106, ag107, ag108, ag109, ag110, ag111, ag112, ag113, ag114, ag115, ag116, ag117, ag118, ag119, ag120, ag121, ag122, ag123, ag124, ag125, ag126, ag127, ag128, ag129, ag130, ag131, ag132, ag133, ag134, ag135, ag136, ag137, ag138, ag139, ag140, ag141, ag142, ag143, ag144, ag145, e74, e81]
       change wpList _ _ _ [_] _ _
       clear hd
       go_wp2_with fail
       go_roundw
       case rel => exact ⟨k + 1, by omega, by go_num, bl_trans hbK hJ⟩
       case measure => simp [intOf]; omega
    ·obtain rfl : k = pl.length := by omega
     replace Lt := Lt.below hb
     replace hrt := hrt.below hb
     replace hrl := hrl.below hb
     replace ht1 := ht1.below hb
     replace hbw := bl_trans hbw hb
     clear hb
     obtain ⟨wy0, hwy0⟩ : ∃ wy0, wy0 = wr := ⟨_, rfl⟩
     subst hwy0
     have LtA := Lt; have t3 := (LtA 3 _ rfl).1
     go_wp2_with fail
     go_loopw [13, 14] (fun q i wr => ∃ k : Nat, k ≤ (ds).length ∧ i = .int .i64 k ∧ q = .string (lineS wShows ((ds).take k)) ∧ (lineS wShows ((ds).take k)).size ≤ 5 + 22 * k ∧ Below wy0.heap.size wy0 wr) (fun _ i _ => (ds).length - (intOf i).toNat)
     case atStart => exact ⟨0, Nat.zero_le _, rfl, rfl, by show (wShows).size ≤ _; decide, Below.refl _ _⟩
     case round =>
      obtain ⟨k, hk, rfl, rfl, hq5, hb⟩ := hrel
      have L3 := Lt.below hb; have t3 := (L3 3 _ rfl).1
      by_cases hlt : k < (ds).length
      ·obtain ⟨g, off, rfl, hg, hc⟩ := (hrt.2.below hb).cell cInt_len (by omega) hlt
       have k0 := hc 0 _ rfl
       simp only [Nat.add_zero, Nat.mul_one] at k0
       clear hc
       have HB := HDB.out (ds)[k] (List.getElem_mem hlt)
       have HSN : Hid (lineS wShows ((ds).take (k + 1)) = addN (lineS wShows ((ds).take k)) (ds)[k]) := foldl_take_succ _ _ _ hlt
       obtain ⟨x, hx⟩ := Int.eq_ofNat_of_zero_le HB.1
       rw [hx] at HB HSN k0
       clear hx
       have hxs := numS_size (x : Int) (by omega)
       have hC := Lib.hid (fun W hW => implFormatInt_any (x : Int) W (by omega) (by omega) hW)
       generalize lineS wShows ((ds).take k) = q at *
       have hn1 : (q ++ (⟨#[32]⟩ : ByteArray)).size = q.size + 1 := by rw [ByteArray.size_append]; rfl
       have hz4 : ¬ 9223372036854775807 < q.size + 1 := by omega
       have hz5 : ¬ 9223372036854775807 < (q ++ (⟨#[32]⟩ : ByteArray)).size + (numS (x : Int)).size := by omega
       have hzz : (addN q (x : Int)).size ≤ 5 + 22 * (k + 1) := by
        unfold addN spc1
        rw [ByteArray.size_append, hn1]; omega
       clear HB hn1
       go_wp2_with fail
       refine (hC.out _ (ht1.below hb)).mono ?_
       rintro e w6 ⟨rfl, hb6⟩
       go_wp2_with fail
       go_roundw
       case rel => exact ⟨k + 1, by omega, by go_num, congrArg Value.string HSN.out.symm, by rw [HSN.out]; exact hzz, bl_trans hb hb6⟩
       case measure => simp [intOf]; omega
      ·obtain rfl : k = (ds).length := by omega
       rw [List.take_length]
       obtain ⟨sd, hsd⟩ : ∃ sd, lineS wShows ds = sd := ⟨_, rfl⟩
       rw [hsd]
       obtain ⟨hfe1, hfe2, hfe3⟩ := HFE.out
       rw [hsd] at hfe1
       rw [← why_tx] at hfe2
       rw [← money_tx] at hfe3
       replace Lt := Lt.below hb
       replace hrt := hrt.below hb
       replace hrl := hrl.below hb
       have HT : Hid (∀ W5, Below wr.heap.size wr W5 → TabOk W5) := fun W5 h5 => (ht1.below hb).below h5
       have l0 := str_cell hrl HF00.out
       rw [Nat.add_zero] at l0
       have l1 := str_cell hrl hfe1
       have l2 := str_cell hrl hfe2
       have l3 := str_cell hrl hfe3
       have t0 := (Lt 0 _ rfl).1
       have t1 := (Lt 1 _ rfl).1
       have t2 := (Lt 2 _ rfl).1
       have t4 := (Lt 4 _ rfl).1
       have hon := HON.out
       have HWY : Hid (∀ W5, RdCompany W5 (.slice A1 cs.length n1) (.slice A2 pl.length n2) cs pl → Calls Tryz.prog 14 #[.agg #[.int .i64 n, .slice A1 cs.length n1, .slice A2 pl.length n2]] W5 fun e w' => e = .returned (.int .i64 (whyF n cs pl)) ∧ Below W5.heap.size W5 w') := fun W5 h5 => implWhyNot_any n _ _ cs pl W5 h5
       generalize whyF n cs pl = wy at *
       have hwn := numS_size wy (by omega)
       have hmz := numS_size m (by omega)
       have hz6 : ¬ 9223372036854775807 < 4 + (numS wy).size := by omega
       have hz7 : ¬ 9223372036854775807 < 6 + (numS m).size := by omega
       have HP6 : pl.length ≤ 6 := hp6
       have hw1 : IntKind.i64.wrap ((pl.length : Int) + 1) = (pl.length : Int) + 1 := IntWalk.i64_in _ (by omega)
       have hw2 : IntKind.i64.wrap ((pl.length : Int) + 2) = (pl.length : Int) + 2 := IntWalk.i64_in _ (by omega)
       have hw3 : IntKind.i64.wrap ((pl.length : Int) + 3) = (pl.length : Int) + 3 := IntWalk.i64_in _ (by omega)
       have hii1 : (pl.length : Int) + 1 < (fl.length : Int) := by have := HFL.out; omega
       have hii2 : (pl.length : Int) + 2 < (fl.length : Int) := by have := HFL.out; omega
       have hii3 : (pl.length : Int) + 3 < (fl.length : Int) := by have := HFL.out; omega
       have hij1 : (0 : Int) ≤ (pl.length : Int) + 1 := by omega
       have hij2 : (0 : Int) ≤ (pl.length : Int) + 2 := by omega
       have hij3 : (0 : Int) ≤ (pl.length : Int) + 3 := by omega
       have hik1 : ¬ (pl.length : Int) + 1 < 0 := by omega
       have hik2 : ¬ (pl.length : Int) + 2 < 0 := by omega
       have hik3 : ¬ (pl.length : Int) + 3 < 0 := by omega
       have hit1 : ((pl.length : Int) + 1).toNat = pl.length + 1 := by omega
       have hit2 : ((pl.length : Int) + 2).toNat = pl.length + 2 := by omega
       have hit3 : ((pl.length : Int) + 3).toNat = pl.length + 3 := by omega
       have hl00 : (0 : Int) < (fl.length : Int) := by have := HFL.out; omega
       obtain ⟨ol9, hol9⟩ : ∃ ol9, (ordR n cs).length = ol9 := ⟨_, rfl⟩
       rw [hol9] at hon ⊢
       have hoe : ((ol9 : Int) == n) = true := by rw [beq_iff_eq]; exact hon
       clear hol9 HON hfe1 hfe2 hfe3 hsd HFE HF00 HFP HPB HDB hq5 hon ho7
       go_upto_region 28 with (fail)
       refine region_guardedL (n := 146) 46 (by kernel_rfl) rfl (by kernel_rfl) [5, 13, 22, 35] (by kernel_rfl) (fun j => if j = 5 then true else if j = 13 then true else if j = 22 then true else if j = 35 then true else false) (fun w' => Below wr.heap.size wr w') (fun _ => 0) (prc gt gl ol cl pl.length fl.length ol9 c9 cs.length n1 n2 n m wy A1 A2 A9 so sd) ⟨fun _ _ _ h => h, fun _ _ _ h => h, fun _ _ _ h => h, fun _ _ _ h => h, trivial⟩ (Below.refl _ _).drew ?_ ?_ ?_
       ·intro i v gh gh' w1 w2 hp hJ hb' hg
        match i, hp with
        | 0, hp => exact hp
        | 1, hp => exact hp
        | 2, hp => exact hp
        | 3, hp => exact hp
        | 4, hp => exact hp
        | 5, hp => exact hp
        | 6, hp => exact hp
        | 7, hp => exact hp
        | 8, hp => exact hp
        | 9, hp => exact hp
        | 10, hp => exact hp
        | 11, hp => exact hp
        | 12, hp => exact hp
        | 13, hp => exact hp
        | 14, hp => exact hp
        | 15, hp => exact hp
        | 16, hp => exact hp
        | 17, hp => exact hp
        | 18, hp => exact hp
        | 19, hp => exact hp
        | 20, hp => exact hp
        | 21, hp => exact hp
        | 22, hp => exact hp
        | 23, hp => exact hp
        | 24, hp => exact hp
        | 25, hp => exact hp
        | 26, hp => exact hp
        | 27, hp => exact hp
        | 28, hp => exact hp
        | 29, hp => exact hp
        | 30, hp => exact hp
        | 31, hp => exact hp
        | 32, hp => exact hp
        | 33, hp => exact hp
        | 34, hp => exact hp
        | 35, hp => exact hp
        | 36, hp => exact hp
        | 37, hp => exact hp
        | 38, hp => exact hp
        | 39, hp => exact hp
        | 40, hp => exact hp
        | 41, hp => exact hp
        | 42, hp => exact hp
        | 43, hp => exact hp
        | 44, hp => exact hp
        | 45, hp => exact hp
        | _ + 46, _ => trivial
       ·refine ⟨?_, ?_, ?_, ?_, ?_, ?_, ?_, ?_, ?_, ?_, ?_, ?_, ?_, ?_, ?_, ?_, ?_, ?_, ?_, ?_, ?_, ?_, ?_, ?_, ?_, ?_, ?_, ?_, ?_, ?_, ?_, ?_, ?_, ?_, ?_, ?_, ?_, ?_, ?_, ?_, ?_, ?_, ?_, ?_, ?_, ?_, trivial⟩
        ·intro a gh w5 hag hJ hd
         dsimp only [bareO]
         have ag5 : a.tmps.getD 5 undef = .slice (some ⟨gl, ol, none⟩) fl.length cl := hag.kept 5 (by kernel_rfl)
         clear hag
         go_wp2_with fail
         exact ⟨rfl, _, rfl, rfl, hJ, Below.refl _ _⟩
        ·intro a gh w5 hag hJ hd
         dsimp only [bareO]
         clear hag
         have e0 : a.tmps.getD 99 undef = .slice (some ⟨gl, ol, none⟩) fl.length cl := hd 0 (by kernel_rfl) _ rfl
         go_wp2_with fail
         exact ⟨rfl, _, rfl, rfl, hJ, Below.refl _ _⟩
        ·intro a gh w5 hag hJ hd
         dsimp only [bareO]
         clear hag
         have e0 : a.tmps.getD 100 undef = .pointer (some ⟨gl, ol, none⟩) := hd 1 (by kernel_rfl) _ rfl
         have k0 := carry hJ l0
         go_wp2_with fail
         exact ⟨rfl, _, rfl, rfl, hJ, Below.refl _ _⟩
        ·intro a gh w5 hag hJ hd
         dsimp only [bareO]
         have ag7 : a.tmps.getD 7 undef = .string so := hag.kept 7 (by kernel_rfl)
         clear hag
         go_wp2_with fail
         exact ⟨rfl, _, rfl, rfl, hJ, Below.refl _ _⟩
        ·intro a gh w5 hag hJ hd
         dsimp only [bareO]
         clear hag
         have e0 : a.tmps.getD 101 undef = .string so := hd 2 (by kernel_rfl) _ rfl
         have e1 : a.tmps.getD 102 undef = .string so := hd 3 (by kernel_rfl) _ rfl
         go_wp2_with fail
         exact ⟨rfl, _, rfl, rfl, hJ, Below.refl _ _⟩
        ·intro a gh w5 hag hJ hd
         dsimp only [bareO]
         clear hag
         have e0 : a.tmps.getD 103 undef = .bool true := hd 4 (by kernel_rfl) _ rfl
         go_wp2_with fail
         exact ⟨rfl, _, rfl, rfl, hJ, Below.refl _ _⟩
        ·intro a gh w5 hag hJ hd
         dsimp only [bareO]
         have ag8 : a.tmps.getD 8 undef = .slice A9 ol9 c9 := hag.kept 8 (by kernel_rfl)
         clear hag
         go_wp2_with fail
         exact ⟨rfl, _, rfl, rfl, hJ, Below.refl _ _⟩
        ·intro a gh w5 hag hJ hd
         dsimp only [bareO]
         clear hag
         have e0 : a.tmps.getD 105 undef = .slice A9 ol9 c9 := hd 6 (by kernel_rfl) _ rfl
         go_wp2_with fail
         exact ⟨rfl, _, rfl, rfl, hJ, Below.refl _ _⟩
        ·intro a gh w5 hag hJ hd
         dsimp only [bareO]
         have ag3 : a.tmps.getD 3 undef = .pointer (some ⟨gt, 0, none⟩) := hag.kept 3 (by kernel_rfl)
         clear hag
         go_wp2_with fail
         exact ⟨rfl, _, rfl, rfl, hJ, Below.refl _ _⟩
        ·intro a gh w5 hag hJ hd
         dsimp only [bareO]
         clear hag
         have e0 : a.tmps.getD 107 undef = .pointer (some ⟨gt, 0, none⟩) := hd 8 (by kernel_rfl) _ rfl
         go_wp2_with fail
         exact ⟨rfl, _, rfl, rfl, hJ, Below.refl _ _⟩
        ·intro a gh w5 hag hJ hd
         dsimp only [bareO]
         clear hag
         have e0 : a.tmps.getD 108 undef = .pointer (some ⟨gt, 0, none⟩) := hd 9 (by kernel_rfl) _ rfl
         have k0 := carry hJ t0
         go_wp2_with fail
         exact ⟨rfl, _, rfl, rfl, hJ, Below.refl _ _⟩
        ·intro a gh w5 hag hJ hd
         dsimp only [bareO]
         clear hag
         have e0 : a.tmps.getD 106 undef = .int .i64 ol9 := hd 7 (by kernel_rfl) _ rfl
         have e1 : a.tmps.getD 109 undef = .int .i64 n := hd 10 (by kernel_rfl) _ rfl
         go_wp2_with fail
         exact ⟨rfl, _, rfl, rfl, hJ, Below.refl _ _⟩
        ·intro a gh w5 hag hJ hd
         dsimp only [bareO]
         clear hag
         have e0 : a.tmps.getD 104 undef = .bool true := hd 5 (by kernel_rfl) _ rfl
         have e1 : a.tmps.getD 110 undef = .bool true := hd 11 (by kernel_rfl) _ rfl
         go_wp2_with fail
         exact ⟨rfl, _, rfl, rfl, hJ, Below.refl _ _⟩
        ·intro a gh w5 hag hJ hd
         dsimp only [bareO]
         clear hag
         have e0 : a.tmps.getD 111 undef = .bool true := hd 12 (by kernel_rfl) _ rfl
         go_wp2_with fail
         exact ⟨rfl, _, rfl, rfl, hJ, Below.refl _ _⟩
        ·intro a gh w5 hag hJ hd
         dsimp only [bareO]
         have ag5 : a.tmps.getD 5 undef = .slice (some ⟨gl, ol, none⟩) fl.length cl := hag.kept 5 (by kernel_rfl)
         clear hag
         go_wp2_with fail
         exact ⟨rfl, _, rfl, rfl, hJ, Below.refl _ _⟩
        ·intro a gh w5 hag hJ hd
         dsimp only [bareO]
         have ag6 : a.tmps.getD 6 undef = .int .i64 pl.length := hag.kept 6 (by kernel_rfl)
         clear hag
         go_wp2_with fail
         exact ⟨rfl, _, rfl, rfl, hJ, Below.refl _ _⟩
        ·intro a gh w5 hag hJ hd
         dsimp only [bareO]
         clear hag
         have e0 : a.tmps.getD 114 undef = .int .i64 pl.length := hd 15 (by kernel_rfl) _ rfl
         go_wp2_with fail
         exact ⟨rfl, _, rfl, rfl, hJ, Below.refl _ _⟩
        ·intro a gh w5 hag hJ hd
         dsimp only [bareO]
         clear hag
         have e0 : a.tmps.getD 113 undef = .slice (some ⟨gl, ol, none⟩) fl.length cl := hd 14 (by kernel_rfl) _ rfl
         have e1 : a.tmps.getD 115 undef = .int .i64 ((pl.length : Int) + 1) := hd 16 (by kernel_rfl) _ rfl
         go_wp2_with fail
         exact ⟨rfl, _, rfl, rfl, hJ, Below.refl _ _⟩
        ·intro a gh w5 hag hJ hd
         dsimp only [bareO]
         clear hag
         have e0 : a.tmps.getD 116 undef = .pointer (some ⟨gl, (ol + (pl.length + 1)), none⟩) := hd 17 (by kernel_rfl) _ rfl
         have k0 := carry hJ l1
         go_wp2_with fail
         exact ⟨rfl, _, rfl, rfl, hJ, Below.refl _ _⟩
        ·intro a gh w5 hag hJ hd
         dsimp only [bareO]
         have ag13 : a.tmps.getD 13 undef = .string sd := hag.kept 13 (by kernel_rfl)
         clear hag
         go_wp2_with fail
         exact ⟨rfl, _, rfl, rfl, hJ, Below.refl _ _⟩
        ·intro a gh w5 hag hJ hd
         dsimp only [bareO]
         clear hag
         have e0 : a.tmps.getD 117 undef = .string sd := hd 18 (by kernel_rfl) _ rfl
         have e1 : a.tmps.getD 118 undef = .string sd := hd 19 (by kernel_rfl) _ rfl
         go_wp2_with fail
         exact ⟨rfl, _, rfl, rfl, hJ, Below.refl _ _⟩
        ·intro a gh w5 hag hJ hd
         dsimp only [bareO]
         clear hag
         have e0 : a.tmps.getD 112 undef = .bool true := hd 13 (by kernel_rfl) _ rfl
         have e1 : a.tmps.getD 119 undef = .bool true := hd 20 (by kernel_rfl) _ rfl
         go_wp2_with fail
         exact ⟨rfl, _, rfl, rfl, hJ, Below.refl _ _⟩
        ·intro a gh w5 hag hJ hd
         dsimp only [bareO]
         clear hag
         have e0 : a.tmps.getD 120 undef = .bool true := hd 21 (by kernel_rfl) _ rfl
         go_wp2_with fail
         exact ⟨rfl, _, rfl, rfl, hJ, Below.refl _ _⟩
        ·intro a gh w5 hag hJ hd
         dsimp only [bareO]
         have ag5 : a.tmps.getD 5 undef = .slice (some ⟨gl, ol, none⟩) fl.length cl := hag.kept 5 (by kernel_rfl)
         clear hag
         go_wp2_with fail
         exact ⟨rfl, _, rfl, rfl, hJ, Below.refl _ _⟩
        ·intro a gh w5 hag hJ hd
         dsimp only [bareO]
         have ag6 : a.tmps.getD 6 undef = .int .i64 pl.length := hag.kept 6 (by kernel_rfl)
         clear hag
         go_wp2_with fail
         exact ⟨rfl, _, rfl, rfl, hJ, Below.refl _ _⟩
        ·intro a gh w5 hag hJ hd
         dsimp only [bareO]
         clear hag
         have e0 : a.tmps.getD 123 undef = .int .i64 pl.length := hd 24 (by kernel_rfl) _ rfl
         go_wp2_with fail
         exact ⟨rfl, _, rfl, rfl, hJ, Below.refl _ _⟩
        ·intro a gh w5 hag hJ hd
         dsimp only [bareO]
         clear hag
         have e0 : a.tmps.getD 122 undef = .slice (some ⟨gl, ol, none⟩) fl.length cl := hd 23 (by kernel_rfl) _ rfl
         have e1 : a.tmps.getD 124 undef = .int .i64 ((pl.length : Int) + 2) := hd 25 (by kernel_rfl) _ rfl
         go_wp2_with fail
         exact ⟨rfl, _, rfl, rfl, hJ, Below.refl _ _⟩
        ·intro a gh w5 hag hJ hd
         dsimp only [bareO]
         clear hag
         have e0 : a.tmps.getD 125 undef = .pointer (some ⟨gl, (ol + (pl.length + 2)), none⟩) := hd 26 (by kernel_rfl) _ rfl
         have k0 := carry hJ l2
         go_wp2_with fail
         exact ⟨rfl, _, rfl, rfl, hJ, Below.refl _ _⟩
        ·intro a gh w5 hag hJ hd
         dsimp only [bareO]
         have ag3 : a.tmps.getD 3 undef = .pointer (some ⟨gt, 0, none⟩) := hag.kept 3 (by kernel_rfl)
         clear hag
         go_wp2_with fail
         exact ⟨rfl, _, rfl, rfl, hJ, Below.refl _ _⟩
        ·intro a gh w5 hag hJ hd
         dsimp only [bareO]
         clear hag
         have e0 : a.tmps.getD 127 undef = .pointer (some ⟨gt, 0, none⟩) := hd 28 (by kernel_rfl) _ rfl
         have k0 := carry hJ t0
         have k1 := carry hJ t1
         have k2 := carry hJ t2
         go_wp2_with fail
         exact ⟨rfl, _, rfl, rfl, hJ, Below.refl _ _⟩
        ·intro a gh w5 hag hJ hd
         dsimp only [bareO]
         clear hag
         have e0 : a.tmps.getD 128 undef = .agg #[.int .i64 n, .slice A1 cs.length n1, .slice A2 pl.length n2] := hd 29 (by kernel_rfl) _ rfl
         go_wp2_with fail
         refine (HWY.out w5 (hrt.1.below hJ)).mono ?_
         rintro e w6 ⟨rfl, hb6⟩
         go_wp2_with fail
         exact ⟨rfl, _, rfl, rfl, bl_trans hJ hb6, hb6⟩
        ·intro a gh w5 hag hJ hd
         dsimp only [bareO]
         clear hag
         have e0 : a.tmps.getD 129 undef = .int .i64 wy := hd 30 (by kernel_rfl) _ rfl
         go_wp2_with fail
         refine (implFormatInt_any wy w5 (by omega) (by omega) (HT.out w5 hJ)).mono ?_
         rintro e w6 ⟨rfl, hb6⟩
         go_wp2_with fail
         exact ⟨rfl, _, rfl, rfl, bl_trans hJ hb6, hb6⟩
        ·intro a gh w5 hag hJ hd
         dsimp only [bareO]
         clear hag
         have e0 : a.tmps.getD 130 undef = .string (numS wy) := hd 31 (by kernel_rfl) _ rfl
         go_wp2_with fail
         exact ⟨rfl, _, rfl, rfl, hJ, Below.refl _ _⟩
        ·intro a gh w5 hag hJ hd
         dsimp only [bareO]
         clear hag
         have e0 : a.tmps.getD 126 undef = .string ((⟨#[119, 104, 121, 32]⟩ : ByteArray) ++ numS wy) := hd 27 (by kernel_rfl) _ rfl
         have e1 : a.tmps.getD 131 undef = .string ((⟨#[119, 104, 121, 32]⟩ : ByteArray) ++ numS wy) := hd 32 (by kernel_rfl) _ rfl
         go_wp2_with fail
         exact ⟨rfl, _, rfl, rfl, hJ, Below.refl _ _⟩
        ·intro a gh w5 hag hJ hd
         dsimp only [bareO]
         clear hag
         have e0 : a.tmps.getD 121 undef = .bool true := hd 22 (by kernel_rfl) _ rfl
         have e1 : a.tmps.getD 132 undef = .bool true := hd 33 (by kernel_rfl) _ rfl
         go_wp2_with fail
         exact ⟨rfl, _, rfl, rfl, hJ, Below.refl _ _⟩
        ·intro a gh w5 hag hJ hd
         dsimp only [bareO]
         clear hag
         have e0 : a.tmps.getD 133 undef = .bool true := hd 34 (by kernel_rfl) _ rfl
         go_wp2_with fail
         exact ⟨rfl, _, rfl, rfl, hJ, Below.refl _ _⟩
        ·intro a gh w5 hag hJ hd
         dsimp only [bareO]
         have ag5 : a.tmps.getD 5 undef = .slice (some ⟨gl, ol, none⟩) fl.length cl := hag.kept 5 (by kernel_rfl)
         clear hag
         go_wp2_with fail
         exact ⟨rfl, _, rfl, rfl, hJ, Below.refl _ _⟩
        ·intro a gh w5 hag hJ hd
         dsimp only [bareO]
         have ag6 : a.tmps.getD 6 undef = .int .i64 pl.length := hag.kept 6 (by kernel_rfl)
         clear hag
         go_wp2_with fail
         exact ⟨rfl, _, rfl, rfl, hJ, Below.refl _ _⟩
        ·intro a gh w5 hag hJ hd
         dsimp only [bareO]
         clear hag
         have e0 : a.tmps.getD 136 undef = .int .i64 pl.length := hd 37 (by kernel_rfl) _ rfl
         go_wp2_with fail
         exact ⟨rfl, _, rfl, rfl, hJ, Below.refl _ _⟩
        ·intro a gh w5 hag hJ hd
         dsimp only [bareO]
         clear hag
         have e0 : a.tmps.getD 135 undef = .slice (some ⟨gl, ol, none⟩) fl.length cl := hd 36 (by kernel_rfl) _ rfl
         have e1 : a.tmps.getD 137 undef = .int .i64 ((pl.length : Int) + 3) := hd 38 (by kernel_rfl) _ rfl
         go_wp2_with fail
         exact ⟨rfl, _, rfl, rfl, hJ, Below.refl _ _⟩
        ·intro a gh w5 hag hJ hd
         dsimp only [bareO]
         clear hag
         have e0 : a.tmps.getD 138 undef = .pointer (some ⟨gl, (ol + (pl.length + 3)), none⟩) := hd 39 (by kernel_rfl) _ rfl
         have k0 := carry hJ l3
         go_wp2_with fail
         exact ⟨rfl, _, rfl, rfl, hJ, Below.refl _ _⟩
        ·intro a gh w5 hag hJ hd
         dsimp only [bareO]
         have ag3 : a.tmps.getD 3 undef = .pointer (some ⟨gt, 0, none⟩) := hag.kept 3 (by kernel_rfl)
         clear hag
         go_wp2_with fail
         exact ⟨rfl, _, rfl, rfl, hJ, Below.refl _ _⟩
        ·intro a gh w5 hag hJ hd
         dsimp only [bareO]
         clear hag
         have e0 : a.tmps.getD 140 undef = .pointer (some ⟨gt, 4, none⟩) := hd 41 (by kernel_rfl) _ rfl
         have k0 := carry hJ t4
         go_wp2_with fail
         exact ⟨rfl, _, rfl, rfl, hJ, Below.refl _ _⟩
        ·intro a gh w5 hag hJ hd
         dsimp only [bareO]
         clear hag
         have e0 : a.tmps.getD 141 undef = .int .i64 m := hd 42 (by kernel_rfl) _ rfl
         go_wp2_with fail
         refine (implFormatInt_any m w5 (by omega) (by omega) (HT.out w5 hJ)).mono ?_
         rintro e w6 ⟨rfl, hb6⟩
         go_wp2_with fail
         exact ⟨rfl, _, rfl, rfl, bl_trans hJ hb6, hb6⟩
        ·intro a gh w5 hag hJ hd
         dsimp only [bareO]
         clear hag
         have e0 : a.tmps.getD 142 undef = .string (numS m) := hd 43 (by kernel_rfl) _ rfl
         go_wp2_with fail
         exact ⟨rfl, _, rfl, rfl, hJ, Below.refl _ _⟩
        ·intro a gh w5 hag hJ hd
         dsimp only [bareO]
         clear hag
         have e0 : a.tmps.getD 139 undef = .string ((⟨#[109, 111, 110, 101, 121, 32]⟩ : ByteArray) ++ numS m) := hd 40 (by kernel_rfl) _ rfl
         have e1 : a.tmps.getD 143 undef = .string ((⟨#[109, 111, 110, 101, 121, 32]⟩ : ByteArray) ++ numS m) := hd 44 (by kernel_rfl) _ rfl
         go_wp2_with fail
         exact ⟨rfl, _, rfl, rfl, hJ, Below.refl _ _⟩
       ·intro a gh w5 hag hJ hd
        have ag0 := hag.kept 0 (by kernel_rfl)
        have ag1 := hag.kept 1 (by kernel_rfl)
        have ag2 := hag.kept 2 (by kernel_rfl)
        have ag3 : a.tmps.getD 3 undef = .pointer (some ⟨gt, 0, none⟩) := hag.kept 3 (by kernel_rfl)
        have ag4 := hag.kept 4 (by kernel_rfl)
        have ag5 : a.tmps.getD 5 undef = .slice (some ⟨gl, ol, none⟩) fl.length cl := hag.kept 5 (by kernel_rfl)
        have ag6 : a.tmps.getD 6 undef = .int .i64 pl.length := hag.kept 6 (by kernel_rfl)
        have ag7 : a.tmps.getD 7 undef = .string so := hag.kept 7 (by kernel_rfl)
        have ag8 : a.tmps.getD 8 undef = .slice A9 ol9 c9 := hag.kept 8 (by kernel_rfl)
        have ag9 := hag.kept 9 (by kernel_rfl)
        have ag10 := hag.kept 10 (by kernel_rfl)
        have ag11 := hag.kept 11 (by kernel_rfl)
        have ag12 := hag.kept 12 (by kernel_rfl)
        have ag13 : a.tmps.getD 13 undef = .string sd := hag.kept 13 (by kernel_rfl)
        have ag14 := hag.kept 14 (by kernel_rfl)
        have ag15 := hag.kept 15 (by kernel_rfl)
        have ag16 := hag.kept 16 (by kernel_rfl)
        have ag17 := hag.kept 17 (by kernel_rfl)
        have ag18 := hag.kept 18 (by kernel_rfl)
        have ag19 := hag.kept 19 (by kernel_rfl)
        have ag20 := hag.kept 20 (by kernel_rfl)
        have ag21 := hag.kept 21 (by kernel_rfl)
        have ag22 := hag.kept 22 (by kernel_rfl)
        have ag23 := hag.kept 23 (by kernel_rfl)
        have ag24 := hag.kept 24 (by kernel_rfl)
        have ag25 := hag.kept 25 (by kernel_rfl)
        have ag26 := hag.kept 26 (by kernel_rfl)
        have ag27 := hag.kept 27 (by kernel_rfl)
        have ag28 := hag.kept 28 (by kernel_rfl)
        have ag29 := hag.kept 29 (by kernel_rfl)
        have ag30 := hag.kept 30 (by kernel_rfl)
        have ag31 := hag.kept 31 (by kernel_rfl)
        have ag32 := hag.kept 32 (by kernel_rfl)
        have ag33 := hag.kept 33 (by kernel_rfl)
        have ag34 := hag.kept 34 (by kernel_rfl)
        have ag35 := hag.kept 35 (by kernel_rfl)
        have ag36 := hag.kept 36 (by kernel_rfl)
        have ag37 := hag.kept 37 (by kernel_rfl)
        have ag38 := hag.kept 38 (by kernel_rfl)
        have ag39 := hag.kept 39 (by kernel_rfl)
        have ag40 := hag.kept 40 (by kernel_rfl)
        have ag41 := hag.kept 41 (by kernel_rfl)
        have ag42 := hag.kept 42 (by kernel_rfl)
        have ag43 := hag.kept 43 (by kernel_rfl)
        have ag44 := hag.kept 44 (by kernel_rfl)
        have ag45 := hag.kept 45 (by kernel_rfl)
        have ag46 := hag.kept 46 (by kernel_rfl)
        have ag47 := hag.kept 47 (by kernel_rfl)
        have ag48 := hag.kept 48 (by kernel_rfl)
        have ag49 := hag.kept 49 (by kernel_rfl)
        have ag50 := hag.kept 50 (by kernel_rfl)
        have ag51 := hag.kept 51 (by kernel_rfl)
        have ag52 := hag.kept 52 (by kernel_rfl)
        have ag53 := hag.kept 53 (by kernel_rfl)
        have ag54 := hag.kept 54 (by kernel_rfl)
        have ag55 := hag.kept 55 (by kernel_rfl)
        have ag56 := hag.kept 56 (by kernel_rfl)
        have ag57 := hag.kept 57 (by kernel_rfl)
        have ag58 := hag.kept 58 (by kernel_rfl)
        have ag59 := hag.kept 59 (by kernel_rfl)
        have ag60 := hag.kept 60 (by kernel_rfl)
        have ag61 := hag.kept 61 (by kernel_rfl)
        have ag62 := hag.kept 62 (by kernel_rfl)
        have ag63 := hag.kept 63 (by kernel_rfl)
        have ag64 := hag.kept 64 (by kernel_rfl)
        have ag65 := hag.kept 65 (by kernel_rfl)
        have ag66 := hag.kept 66 (by kernel_rfl)
        have ag67 := hag.kept 67 (by kernel_rfl)
        have ag68 := hag.kept 68 (by kernel_rfl)
        have ag69 := hag.kept 69 (by kernel_rfl)
        have ag70 := hag.kept 70 (by kernel_rfl)
        have ag71 := hag.kept 71 (by kernel_rfl)
        have ag72 := hag.kept 72 (by kernel_rfl)
        have ag73 := hag.kept 73 (by kernel_rfl)
        have ag74 := hag.kept 74 (by kernel_rfl)
        have ag75 := hag.kept 75 (by kernel_rfl)
        have ag76 := hag.kept 76 (by kernel_rfl)
        have ag77 := hag.kept 77 (by kernel_rfl)
        have ag78 := hag.kept 78 (by kernel_rfl)
        have ag79 := hag.kept 79 (by kernel_rfl)
        have ag80 := hag.kept 80 (by kernel_rfl)
        have ag81 := hag.kept 81 (by kernel_rfl)
        have ag82 := hag.kept 82 (by kernel_rfl)
        have ag83 := hag.kept 83 (by kernel_rfl)
        have ag84 := hag.kept 84 (by kernel_rfl)
        have ag85 := hag.kept 85 (by kernel_rfl)
        have ag86 := hag.kept 86 (by kernel_rfl)
        have ag87 := hag.kept 87 (by kernel_rfl)
        have ag88 := hag.kept 88 (by kernel_rfl)
        have ag89 := hag.kept 89 (by kernel_rfl)
        have ag90 := hag.kept 90 (by kernel_rfl)
        have ag91 := hag.kept 91 (by kernel_rfl)
        have ag92 := hag.kept 92 (by kernel_rfl)
        have ag93 := hag.kept 93 (by kernel_rfl)
        have ag94 := hag.kept 94 (by kernel_rfl)
        have ag95 := hag.kept 95 (by kernel_rfl)
        have ag96 := hag.kept 96 (by kernel_rfl)
        have ag97 := hag.kept 97 (by kernel_rfl)
        have ag98 := hag.kept 98 (by kernel_rfl)
        rw [act146ra hag.size hag.defers]
        clear hag
        have e134 : a.tmps.getD 134 undef = .bool true := hd 35 (by kernel_rfl) _ rfl
        have e144 : a.tmps.getD 144 undef = .bool true := hd 45 (by kernel_rfl) _ rfl
        rw [ag0, ag1, ag2, ag3, ag4, ag5, ag6, ag7, ag8, ag9, ag10, ag11, ag12, ag13, ag14, ag15, ag16, ag17, ag18, ag19, ag20, ag21, ag22, ag23, ag24, ag25, ag26, ag27, ag28, ag29, ag30, ag31, ag32, ag33, ag34, ag35, ag36, ag37, ag38, ag39, ag40, ag41, ag42, ag43, ag44, ag45, ag46, ag47, ag48, ag49, ag50, ag51, ag52, ag53, ag54, ag55, ag56, ag57, ag58, ag59, ag60, ag61, ag62, ag63, ag64, ag65, ag66, ag67, ag68, ag69, ag70, ag71, ag72, ag73, ag74, ag75, ag76, ag77, ag78, ag79, ag80, ag81, ag82, ag83, ag84, ag85, ag86, ag87, ag88, ag89, ag90, ag91, ag92, ag93, ag94, ag95, ag96, ag97, ag98, e134, e144]
        change wpList _ _ _ [_, _] _ _
        clear hd
        go_wp2_with fail
        go_ret
        exact ⟨rfl, bl_trans hbw (bl_trans hb hJ)⟩
theorem door_met_fnSummaries (os : Os) (args : Array Value) : laidMetH Tryz.prog Rows.fnSummariesRow.laid ((World.doorLaid Tryz.prog 72 os).forCall (fun _ _ => 0) ⟨#[], args, []⟩).memory :=
 laidMetH_of_parts3 (fuel := 8) (laidMet_of_run' 8 (by kernel_rfl) (by kernel_rfl)) (by kernel_rfl) (by kernel_rfl)
set_option maxRecDepth 100000 in
set_option maxHeartbeats 1000000 in
theorem fnSummaries_lifted (os : Os) (started : os.Started) (H : Type) (enc : TypeId × Value → H) :
  ReturnsInHanded {} Tryz.checked os 3 .any (fun w args => (Rows.fnSummariesSpec.pre enc Tryz.prog Tryz.f3 [] false w args ∧ laidMetH Tryz.prog Rows.fnSummariesRow.laid w) ∧ sizedMet enc Tryz.prog Tryz.f3 (OpenSpec.ofChange Rows.fnSummariesSpec) false w args) (Rows.fnSummariesSpec.post enc Tryz.prog Tryz.f3 false true false false) := by
 refine returnsInHanded_of_change_and (C := Tryz.checked) (X := fun w _ => laidMetH Tryz.prog Rows.fnSummariesRow.laid w) (fun _ _ _ hh h => h.of_heap hh) tryOwn started (by kernel_rfl) Tryz.func3
  (ChangeSpec.witness_shaped (enc := enc) (C := Tryz.checked) (os := os) (X := fun w _ => laidMetH Tryz.prog Rows.fnSummariesRow.laid w) false (World.doorLaid Tryz.prog 72 os) #[.slice none 0 0] 12 rfl (World.shaped_of_RefB (by kernel_rfl) (by kernel_rfl)) (by kernel_rfl) (by kernel_rfl) (by kernel_rfl) (door_met_fnSummaries os _)) ?_
 intro W base args ds gs before hval0 hW _ _ hL _
 have hval : ∀ (j : Nat) t v, Tryz.f3.params[j]? = some t → args[j]? = some v → Value.okWide Tryz.prog W .any base t v := hval0
 have hW' := hW
 obtain ⟨p, q, hA0, hV, rfl, hfz, hnd⟩ := hW
 have hA : DataW.TrodAll enc Tryz.prog W 0 (fun _ => true) true Tryz.f3.params.toList args.toList ds p := hA0
 rw [Tryz.params3] at hA hval
 obtain ⟨v0, vs0, d0, ds0, p0, q0, hargs, rfl, rfl, h0, r0⟩ := trodAll_cons hA
 obtain ⟨rfl, rfl, rfl⟩ := trodAll_nil r0
 obtain rfl : args = #[v0] := by cases args; simp_all
 obtain ⟨rfl, rfl⟩ := trodVars_none hV
 have e0 := h0
 have lt0 : ∀ x ∈ p0, x.block < W.heap.size := by obtain ⟨m, hm⟩ := e0; exact DataW.trod_lt m _ _ _ hm
 have ok0 := hval 0 22 v0 rfl rfl
 rw [MakeChecks.laidMetH_plain _ _ _ (by kernel_rfl)] at hL
 clear hA0 hval0 hval
 obtain ⟨xs, hrd, hby⟩ := arg_slice Tryz.underlying22 ok0 h0 (opens_slice (f := cU8) (size := 1) Tryz.underlying22 (by kernel_rfl) (by omega) cU8_len (opens_u8 Tryz.underlying5))
 obtain ⟨A, c, rfl, _⟩ := RdS.form hrd
 refine (lawFnSummaries_any A c xs W hrd hby (tab3 hL)).mono fun e W' ⟨he, bel⟩ => ?_
 subst he
 exact ⟨_, rfl, _, _, _, [], _, [], hW', trodAll_mk1 (shut_bool Tryz.underlying4 _), (trodAll_cons_mk (Below.trod tryLaid (by kernel_rfl) (of_decide_eq_true (by kernel_rfl)) e0 bel lt0) trodAll_mk0), rfl, bel.frame _, fun h => by cases h⟩
theorem fnSummaries_row : Rows.FnSummariesSaid :=
 OpenClaim.holds_of_wide 3 Tryz.f3 rfl rfl rfl rfl rfl rfl rfl ⟨rfl, rfl, rfl, rfl, rfl⟩ rfl rfl rfl rfl rfl (by kernel_rfl) Tryz.func3 (by kernel_rfl)
  (of_decide_eq_true (by kernel_rfl)) (by unfold Func.isWrapper; first | (rw [if_pos (by decide +kernel)]; kernel_rfl) | (rw [if_neg (by decide +kernel)]; exact ⟨rfl, rfl⟩))
  (fun os started H enc _ => fnSummaries_lifted os started H enc)
theorem fnSummaries_holds : Rows.FnSummariesCardSaid :=
 Claim7.holds_tied_plain_at .later [] [.data, .data, .data] true (true, "9a5d7ccd6d7b1d899c76cef772b28dbce31a863826f4a730b92639ba3a34e789") true
  fnSummaries_row (fun _ h => by cases h) (by kernel_rfl) (fun _ h => by cases h) fnSummaries_row_tie rfl ⟨rfl, rfl⟩ (by kernel_rfl) rfl
  (fun f fn hf hfn => by
   obtain rfl : f = 3 := Option.some.inj ((show Tryz.prog.funcNamed "loop.example/g03306/laws.FnSummaries" = some 3 by kernel_rfl).symm.trans hf) |>.symm
   obtain rfl : fn = Tryz.f3 := (Option.some.inj (Tryz.func3.symm.trans hfn)).symm
   exact ⟨by kernel_rfl, fun j t ht => by
    rw [Tryz.params3] at ht
    have hm : t ∈ [22] := by simpa using Array.mem_of_getElem? ht
    have hall : ([22].all fun u => !Tryz.prog.wantsStandIn u) = true := by kernel_rfl
    exact (show Tryz.prog.wantsStandIn t = false by simpa using List.all_eq_true.1 hall t hm)⟩)
  (by kernel_rfl)
#print axioms fnSummaries_holds
end Go.Proofs.YtdhmhgjjppeodaaGreatDoor
