/- FnBodies: the law returns true for every input. No condition. Written by a program (gen_fb.py). -/
import Derived.OpenShut
import Derived.Deep.DeepCutAuto
import Derived.Test.YtomghkfkbpkbdaaBdB3x9
import Derived.Test.YtomghkfkbpkbdaaBdM5x9
import Derived.Test.YtomghkfkbpkbdaaBdU3x2
import Derived.Test.YtomghkfkbpkbdaaBdW1x3
import Derived.Test.YtomghkfkbpkbdaaBdO1x2
namespace Go.Proofs.Ytomghkfkbpkbdaa
open Go.ChangeShapes Go.WideShapes Go.ChangeAt Go.RowKit Go.Deep
def DrawnBody (w : World) (e : Ending) (w' : World) : Prop := ∃ (n : Nat) (v : Value) (l : List RLimb), e = .returned (.agg #[.int .i64 n, v]) ∧ RdL cLimb 3 w' v l ∧ bodyB n l = true ∧ Below w.heap.size w w'
set_option maxHeartbeats 1000000 in
theorem drawBody_any (A : Option Addr) (c : Nat) (bs : List Int) (w : World) (h : RdL cU8 1 w (.slice A bs.length c) bs) (hby : ∀ x ∈ bs, 0 ≤ x ∧ x ≤ 255) (hlen : bs.length ≤ 1048576) :
    Calls Try.prog 6 #[.slice A bs.length c] w (DrawnBody w) := by
  go_enter Try.func6, Try.ntmps6
  have hb0 : Below w.heap.size w (w.alloc (.cells #[.int .i64 0, .slice none 0 0] 26)) := by (repeat' (first | (with_reducible exact Below.refl _ _) | (with_reducible assumption) | (with_reducible refine Below.setCell ?_ (by first | omega | (simp; omega) | (simp; done)) _) | (with_reducible refine Below.alloc ?_ (by first | omega | (simp; omega) | (simp; done)) _) | (with_reducible refine Below.drew ?_) | (with_reducible refine below_drewN ?_ _)))
  have lr : Loc (w.alloc (.cells #[.int .i64 0, .slice none 0 0] 26)) w.heap.size [.int .i64 0, .slice none 0 0] := Loc.new w #[.int .i64 0, .slice none 0 0] 26
  have hz0 : w.heap.size < (w.alloc (.cells #[.int .i64 0, .slice none 0 0] 26)).heap.size := by simp
  go_wp2_with fail
  generalize w.alloc (.cells #[.int .i64 0, .slice none 0 0] 26) = V at *
  refine (l01New_any A c bs V (h.below hb0) hby hlen).mono ?_
  rintro e w1 ⟨g, rfl, hc⟩
  have hgV := hc.base
  have lr1 := lr.below hc.below
  go_wp2_with fail
  refine (l02Body_any V w1 g A c bs hc).mono ?_
  rintro e w2 ⟨n, v, l, rfl, ho1, hok, hc2, hch⟩
  obtain ⟨A1, n1, rfl, _, _⟩ := (RdS.of_own ho1).form
  have hz1 := hc.below.size
  have lr2 := lr1.chg hch (by simp; omega)
  have hb2 : Below w.heap.size w w2 := bl_trans hb0 hc2.below
  have hz2' := hb2.size
  obtain ⟨k0, f0⟩ := lr2 0 _ rfl
  obtain ⟨k1, f1⟩ := lr2 1 _ rfl
  have Hok := Lib.hid hok
  clear hok
  go_wp2_with fail
  have hch3 : Chg [w.heap.size] w2 ((w2.setCell ⟨w.heap.size, 0, none⟩ (.int .i64 n)).setCell ⟨w.heap.size, 1, none⟩ (.slice A1 l.length n1)) := by repeat' (first | (with_reducible exact Chg.refl _ _) | (with_reducible refine chg_set ?_ (by simp)))
  have o1 := own_chg ho1 hch3 (fun b hb hb' => by have := (own_lt ho1 b hb).1; simp at hb'; omega)
  exact bodyPost_ret (v := .agg #[.int .i64 n, .slice A1 l.length n1]) (by simp [results, Try.results6, go_sem, *]) rfl ⟨n, _, l, rfl, RdS.of_own o1, Hok.out, Below.chg hb2 hch3 hz2' (by simp)⟩
set_option maxRecDepth 100000 in
theorem act106fb {a : Act} (h : a.tmps.size = 106) (hd : a.defers = []) : a = ⟨List.toArray (a.tmps.getD 0 undef :: a.tmps.getD 1 undef :: a.tmps.getD 2 undef :: a.tmps.getD 3 undef :: a.tmps.getD 4 undef :: a.tmps.getD 5 undef :: a.tmps.getD 6 undef :: a.tmps.getD 7 undef :: a.tmps.getD 8 undef :: a.tmps.getD 9 undef :: a.tmps.getD 10 undef :: a.tmps.getD 11 undef :: a.tmps.getD 12 undef :: a.tmps.getD 13 undef :: a.tmps.getD 14 undef :: a.tmps.getD 15 undef :: a.tmps.getD 16 undef :: a.tmps.getD 17 undef :: a.tmps.getD 18 undef :: a.tmps.getD 19 undef :: a.tmps.getD 20 undef :: a.tmps.getD 21 undef :: a.tmps.getD 22 undef :: a.tmps.getD 23 undef :: a.tmps.getD 24 undef :: a.tmps.getD 25 undef :: a.tmps.getD 26 undef :: a.tmps.getD 27 undef :: a.tmps.getD 28 undef :: a.tmps.getD 29 undef :: a.tmps.getD 30 undef :: a.tmps.getD 31 undef :: a.tmps.getD 32 undef :: a.tmps.getD 33 undef :: a.tmps.getD 34 undef :: a.tmps.getD 35 undef :: a.tmps.getD 36 undef :: a.tmps.getD 37 undef :: a.tmps.getD 38 undef :: a.tmps.getD 39 undef :: a.tmps.getD 40 undef :: a.tmps.getD 41 undef :: a.tmps.getD 42 undef :: a.tmps.getD 43 undef :: a.tmps.getD 44 undef :: a.tmps.getD 45 undef :: a.tmps.getD 46 undef :: a.tmps.getD 47 undef :: a.tmps.getD 48 undef :: a.tmps.getD 49 undef :: a.tmps.getD 50 undef :: a.tmps.getD 51 undef :: a.tmps.getD 52 undef :: a.tmps.getD 53 undef :: a.tmps.getD 54 undef :: a.tmps.getD 55 undef :: a.tmps.getD 56 undef :: a.tmps.getD 57 undef :: a.tmps.getD 58 undef :: a.tmps.getD 59 undef :: a.tmps.getD 60 undef :: a.tmps.getD 61 undef :: a.tmps.getD 62 undef :: a.tmps.getD 63 undef :: a.tmps.getD 64 undef :: a.tmps.getD 65 undef :: a.tmps.getD 66 undef :: a.tmps.getD 67 undef :: a.tmps.getD 68 undef :: a.tmps.getD 69 undef :: a.tmps.getD 70 undef :: a.tmps.getD 71 undef :: a.tmps.getD 72 undef :: a.tmps.getD 73 undef :: a.tmps.getD 74 undef :: a.tmps.getD 75 undef :: a.tmps.getD 76 undef :: a.tmps.getD 77 undef :: a.tmps.getD 78 undef :: a.tmps.getD 79 undef :: a.tmps.getD 80 undef :: a.tmps.getD 81 undef :: a.tmps.getD 82 undef :: a.tmps.getD 83 undef :: a.tmps.getD 84 undef :: a.tmps.getD 85 undef :: a.tmps.getD 86 undef :: a.tmps.getD 87 undef :: a.tmps.getD 88 undef :: a.tmps.getD 89 undef :: a.tmps.getD 90 undef :: a.tmps.getD 91 undef :: a.tmps.getD 92 undef :: a.tmps.getD 93 undef :: a.tmps.getD 94 undef :: a.tmps.getD 95 undef :: a.tmps.getD 96 undef :: a.tmps.getD 97 undef :: a.tmps.getD 98 undef :: a.tmps.getD 99 undef :: a.tmps.getD 100 undef :: a.tmps.getD 101 undef :: a.tmps.getD 102 undef :: a.tmps.getD 103 undef :: a.tmps.getD 104 undef :: a.tmps.getD 105 undef :: []), []⟩ := act_eq 106 h hd
def pfb (cb j B : Nat) (A A1 : Option Addr) (c c1 : Nat) (bs : List Int) (l l' : List RLimb) (av aj n' : Int) (ok : Bool) (i : Nat) (v : Value) (gh : Nat → Nat) (w : World) : Prop :=
  match i with
  | 0 => v = .agg #[.int .i64 j, .slice A1 l.length c1]
  | 1 => v = .slice A bs.length c
  | 2 => v = .int .i64 av
  | 3 => v = .pointer (some ⟨cb, 0, none⟩)
  | 4 => v = .int .i64 j
  | 5 => v = .int .i64 aj
  | 6 => ∃ (A' : Option Addr) (c' : Nat), v = .tuple #[.agg #[.int .i64 n', .slice A' l'.length c'], .bool ok] ∧ OwG B (fun w S => OwBody w S (.slice A' l'.length c') l') 1 gh w
  | 7 => ∃ (A' : Option Addr) (c' : Nat), v = .tuple #[.agg #[.int .i64 n', .slice A' l'.length c'], .bool ok] ∧ OwG B (fun w S => OwBody w S (.slice A' l'.length c') l') 1 gh w
  | 8 => ∃ (A' : Option Addr) (c' : Nat), v = .agg #[.int .i64 n', .slice A' l'.length c'] ∧ OwG B (fun w S => OwBody w S (.slice A' l'.length c') l') 1 gh w
  | 9 => v = .bool ok
  | 10 => ∃ xb, v = .pointer (some ⟨xb, 0, none⟩) ∧ B ≤ xb ∧ Loc w xb [.int .i64 0, .slice none 0 0] ∧ gh xb = 2 ∧ xb < w.heap.size
  | _ => True
set_option maxHeartbeats 16000000 in
set_option maxRecDepth 100000 in
theorem lawFnBodies_any (A : Option Addr) (c : Nat) (bs : List Int) (w : World) (h : RdL cU8 1 w (.slice A bs.length c) bs) (hby : ∀ x ∈ bs, 0 ≤ x ∧ x ≤ 255) :
    Calls Try.prog 3 #[.slice A bs.length c] w fun e w' => e = .returned (.bool true) ∧ Below w.heap.size w w' := by
  have Hby := Lib.hid hby
  clear hby
  go_enter Try.func3, Try.ntmps3
  go_wp2_with (go_at_call 5; refine twoB (big_any _ _ _ _) (fun wb hc hb => ?_) (fun wb hc hb => ?_))
  · go_ret
    exact ⟨rfl, hb⟩
  have hlen : bs.length ≤ 1048576 := by have := hc.out; simp at this; omega
  clear hc
  refine (drawBody_any A c bs wb (h.below hb) Hby.out hlen).mono ?_
  rintro e w1 ⟨n, v, l, rfl, hrl, hbody, hb1⟩
  obtain ⟨A1, c1, rfl, _, _⟩ := hrl.form
  have hbw : Below w.heap.size w w1 := bl_trans hb hb1
  have hcode := h.below hbw
  have hn12 := (body_parts hbody).1
  have Hok := Lib.hid hbody
  clear hbody hb hb1 h
  go_upto_region 4 with (fail)
  have hal : Below w1.heap.size w1 (w1.alloc (.cells #[.int .i64 n, .slice A1 l.length c1] 26)) := (Below.refl _ _).alloc (Nat.le_refl _) _
  have Lc : Loc (w1.alloc (.cells #[.int .i64 n, .slice A1 l.length c1] 26)) w1.heap.size [.int .i64 n, .slice A1 l.length c1] := Loc.new w1 #[.int .i64 n, .slice A1 l.length c1] 26
  obtain ⟨cb, hcb⟩ : ∃ g, w1.heap.size = g := ⟨_, rfl⟩
  rw [hcb] at Lc
  replace hrl := hrl.below hal
  replace hcode := hcode.below hal
  replace hbw : Below w.heap.size w (w1.alloc (.cells #[.int .i64 n, .slice A1 l.length c1] 26)) := bl_trans hbw hal
  generalize w1.alloc (.cells #[.int .i64 n, .slice A1 l.length c1] 26) = W1 at *
  rw [hcb]
  clear hcb hal
  have b0 := (Lc 0 _ rfl).1
  have b1 := (Lc 1 _ rfl).1
  go_wp2_with fail
  refine (endsOf_t n _ l _ hrl Hok.out).mono ?_
  rintro e w2 ⟨ve, rfl, owne, hb2⟩
  have hre : RdL cInt 1 w2 ve (endsTo l n) := RdS.of_own owne
  obtain ⟨Ae, ce, rfl, _, _⟩ := hre.form
  clear owne b0 b1
  have Lc2 := Lc.below hb2
  have hrl2 := hrl.below hb2
  have hcode2 := hcode.below hb2
  have hbw2 := bl_trans hbw hb2
  have HEM : Hid (∀ j, j < n → hasB (endsTo l n) (j : Int) = decide (degF l j ≤ 1)) := fun j hj => by
    have h1 := endsTo_mem (l := l) hj
    by_cases h2 : degF l j ≤ 1
    · rw [decide_eq_true h2]; exact hasB_iff.2 (h1.2 h2)
    · rw [decide_eq_false h2, Bool.eq_false_iff]
      intro h3
      exact h2 (h1.1 (hasB_iff.1 h3))
  have HE2 := Lib.hid (ends_two Hok.out)
  have HDG := Lib.hid (body_deg Hok.out)
  have HLD : Hid (∀ j : Nat, (limbsTo l (j : Int) l.length).length = degF l (j : Int)) := fun j => limbsTo_deg l j
  have HLA : Hid (∀ (j : Nat) (W : World), j < n → RdL cLimb 3 W (.slice A1 l.length c1) l → Calls Try.prog 8 #[.agg #[.int .i64 n, .slice A1 l.length c1], .int .i64 j] W fun e w' => ∃ v', e = .returned v' ∧ w'.ownsRow W.heap.size 3 1 v' (limbsTo l j l.length).length ((limbsTo l j l.length).flatMap cInt) ∧ Below W.heap.size W w') := fun j W hj hr => limbsAt_t n j _ l W hr Hok.out hj
  have HDB : Hid (∀ j : Nat, degTo l j ≤ j * 12) := by
    intro j
    induction j with
    | zero => exact Nat.le_refl _
    | succ j ih =>
      have h1 := limbsTo_le l (j : Int) l.length
      rw [HLD.out j] at h1
      have h2 := (body_bd Hok.out).2.2.2
      rw [degTo]
      omega
  generalize endsTo l n = es at *
  clear Lc hrl hcode hbw hb2
  go_wp2_with fail
  go_loopw [4, 6, 7] (fun s i _ wr => ∃ j : Nat, j ≤ n ∧ i = .int .i64 j ∧ s = .int .i64 (degTo l j : Nat) ∧ Loc wr cb [.int .i64 n, .slice A1 l.length c1] ∧ RdL cLimb 3 wr (.slice A1 l.length c1) l ∧ RdL cInt 1 wr (.slice Ae es.length ce) es ∧ RdL cU8 1 wr (.slice A bs.length c) bs ∧ Below w.heap.size w wr) (fun _ i _ _ => n - (intOf i).toNat)
  case atStart => exact ⟨0, Nat.zero_le _, rfl, rfl, Lc2, hrl2, hre, hcode2, hbw2⟩
  case round =>
    obtain ⟨j, hj, rfl, rfl, Lr, hrl, hre, hcode, hbw⟩ := hrel
    clear Lc2 hrl2 hcode2 hbw2
    have b0 := (Lr 0 _ rfl).1
    have b1 := (Lr 1 _ rfl).1
    by_cases hlt : j < n
    · have hC := HLA.out j wr hlt hrl
      have hdb := HDB.out j
      have hdb1 := HDB.out (j + 1)
      have HD := Lib.hid (HLD.out j)
      have HSU : Hid (degTo l (j + 1) = degTo l j + degF l (j : Int)) := rfl
      have HH := Lib.hid (HEM.out j hlt)
      obtain ⟨dl, hdl⟩ : ∃ dl, (limbsTo l (j : Int) l.length).length = dl := ⟨_, rfl⟩
      rw [hdl] at hC HD
      rw [HSU.out, ← HD.out] at hdb1
      rw [← HD.out] at HSU HH
      generalize degTo l j = dj at *
      clear hdl
      go_wp2_with fail
      refine hC.mono ?_
      rintro e w3 ⟨v3, rfl, own3, hb3⟩
      obtain ⟨A3, c3, rfl, _, _⟩ := (RdS.of_own own3).form
      have Lr3 := Lr.below hb3
      have hrl3 := hrl.below hb3
      have hre3 := hre.below hb3
      have hcode3 := hcode.below hb3
      have hbw3 := bl_trans hbw hb3
      have hhas := has_any (.slice Ae es.length ce) es (j : Int) w3 hre3
      rw [HH.out] at hhas
      clear hC own3 hb3 Lr hrl hre hcode hbw b0 b1
      have hw1 : IntKind.i64.wrap ((dj : Int) + (dl : Int)) = (dj : Int) + (dl : Int) := IntWalk.i64_in _ (by omega)
      by_cases h1 : dl ≤ 1
      · rw [decide_eq_true h1] at hhas
        have hd : decide ((dl : Int) ≤ 1) = true := decide_eq_true (by omega)
        go_wp2_with (go_at_call 9; refine hhas.mono ?_; rintro e w4 ⟨rfl, rfl⟩)
        go_roundw
        case rel => exact ⟨j + 1, by omega, by go_num, int_eq (by rw [HSU.out]; omega), Lr3, hrl3, hre3, hcode3, hbw3⟩
        case measure => simp [intOf]; omega
      · rw [decide_eq_false h1] at hhas
        have hd : decide ((dl : Int) ≤ 1) = false := decide_eq_false (by omega)
        go_wp2_with (go_at_call 9; refine hhas.mono ?_; rintro e w4 ⟨rfl, rfl⟩)
        go_roundw
        case rel => exact ⟨j + 1, by omega, by go_num, int_eq (by rw [HSU.out]; omega), Lr3, hrl3, hre3, hcode3, hbw3⟩
        case measure => simp [intOf]; omega
    · obtain rfl : j = n := by omega
      rw [HDG.out]
      have hav := atV_bd Hby.out 0
      have HAV := Lib.hid (fun W hr => at_v A c bs 0 W hr Hby.out hlen (by omega))
      obtain ⟨aj, haj, hajn⟩ : ∃ aj : Nat, (atV bs 0).tmod (j : Int) = (aj : Int) ∧ aj < j := by
        rw [Int.tmod_eq_emod_of_nonneg (by omega)]
        have h1 := Int.emod_nonneg (atV bs 0) (show (j : Int) ≠ 0 by omega)
        have h2 := Int.emod_lt_of_pos (atV bs 0) (show (0 : Int) < j by omega)
        exact ⟨((atV bs 0) % (j : Int)).toNat, by omega, by omega⟩
      generalize atV bs 0 = av at *
      have hl11 := (body_bd Hok.out).2.2.2
      have HAL : Hid (∀ W, RdL cLimb 3 W (.slice A1 l.length c1) l → Calls Try.prog 10 #[.agg #[.int .i64 j, .slice A1 l.length c1], .int .i64 aj, .int .i64 7] W (RetBody (addN j l aj 7) (addB j l aj 7) (addL j l aj 7) W)) := fun W hr => implAddLimb_any j aj 7 _ l W hr (by unfold szBody; omega)
      have HOK7 : Hid ((j < 12 ∧ addB (j : Int) l (aj : Int) 7 = true ∧ addN (j : Int) l (aj : Int) 7 = ((j + 1 : Nat) : Int) ∧ bodyB ((j + 1 : Nat) : Int) (addL (j : Int) l (aj : Int) 7) = true ∧ lenF (addL (j : Int) l (aj : Int) 7) = lenF l + 7) ∨ (j = 12 ∧ addB (j : Int) l (aj : Int) 7 = false)) := by
        by_cases h12 : j < 12
        · have hb7 := add_limb Hok.out hajn h12 (x := 7) (by omega)
          have h7 : addB (j : Int) l (aj : Int) 7 = true := by rw [addB, Hok.out, inB_iff.2 (by omega), hb7]; rfl
          refine .inl ⟨h12, h7, by rw [addN, h7, if_pos rfl]; omega, ?_, ?_⟩
          · rw [addL, h7, if_pos rfl, show ((j + 1 : Nat) : Int) = (j : Int) + 1 by omega]; exact hb7
          · rw [addL, h7, if_pos rfl, lenF_snoc]
        · refine .inr ⟨by omega, ?_⟩
          have : bodyB ((j : Int) + 1) (l ++ [((aj : Int), (j : Int), 7)]) = false := by rw [bodyB, inB_false.2 (by omega)]; rfl
          rw [addB, this, Bool.and_false]
      generalize addN (j : Int) l (aj : Int) 7 = n' at *
      generalize addB (j : Int) l (aj : Int) 7 = ok at *
      generalize addL (j : Int) l (aj : Int) 7 = l' at *
      go_upto_region 13 with (fail)
      clear b0 b1
      go_cut [8, 9] (fun s8 s9 wx => ∃ (xb : Nat) (A' : Option Addr) (c' : Nat), s8 = .pointer (some ⟨xb, 0, none⟩) ∧ s9 = .bool ok ∧ Loc wx xb [.int .i64 n', .slice A' l'.length c'] ∧ RdL cLimb 3 wx (.slice A' l'.length c') l' ∧ Below wr.heap.size wr wx)
      case first =>
        refine region_pendL (n := 106) 11 9 (by kernel_rfl) rfl (by kernel_rfl) [] (by kernel_rfl) (fun _ => false) (fun w' => Below wr.heap.size wr w') (fun i => if i = 10 then 2 else 1) (pfb cb j wr.heap.size A A1 c c1 bs l l' av aj n' ok) trivial (Below.refl _ _).drew ?_ ?_ ?_ ?_
        · intro i v gh gh' w1 w2 hp hJ hb' hg
          match i, hp with
          | 0, hp => exact hp
          | 1, hp => exact hp
          | 2, hp => exact hp
          | 3, hp => exact hp
          | 4, hp => exact hp
          | 5, hp => exact hp
          | 6, hp => exact (by obtain ⟨A', c', h1, h2⟩ := hp; exact ⟨A', c', h1, h2.keep (fun S h => h.below hb') hb' hg⟩)
          | 7, hp => exact (by obtain ⟨A', c', h1, h2⟩ := hp; exact ⟨A', c', h1, h2.keep (fun S h => h.below hb') hb' hg⟩)
          | 8, hp => exact (by obtain ⟨A', c', h1, h2⟩ := hp; exact ⟨A', c', h1, h2.keep (fun S h => h.below hb') hb' hg⟩)
          | 9, hp => exact hp
          | 10, hp => exact (by obtain ⟨xb, h1, h2, h3, h4, h5⟩ := hp; exact ⟨xb, h1, h2, h3.below hb', (hg _ h5).trans h4, Nat.lt_of_lt_of_le h5 hb'.size⟩)
          | _ + 11, _ => trivial
        · refine ⟨?_, ?_, ?_, ?_, ?_, ?_, ?_, ?_, ?_, ?_, ?_, trivial⟩
          · intro a gh w5 hag hJ hd
            dsimp only [bareO]
            have ag3 : a.tmps.getD 3 undef = .pointer (some ⟨cb, 0, none⟩) := hag.kept 3 (by kernel_rfl)
            clear hag
            have k0 := ((Lr.below hJ) 0 _ rfl).1
            have k1 := ((Lr.below hJ) 1 _ rfl).1
            go_wp2_with fail
            exact ⟨rfl, _, rfl, rfl, hJ, Below.refl _ _⟩
          · intro a gh w5 hag hJ hd
            dsimp only [bareO]
            have ag0 : a.tmps.getD 0 undef = .slice A bs.length c := hag.kept 0 (by kernel_rfl)
            clear hag
            go_wp2_with fail
            exact ⟨rfl, _, rfl, rfl, hJ, Below.refl _ _⟩
          · intro a gh w5 hag hJ hd
            dsimp only [bareO]
            clear hag
            have e0 : a.tmps.getD 39 undef = .slice A bs.length c := hd 1 (by kernel_rfl) _ rfl
            go_wp2_with fail
            refine (HAV.out w5 (hcode.below hJ)).mono ?_
            rintro e w6 ⟨rfl, rfl⟩
            go_wp2_with fail
            exact ⟨rfl, _, rfl, rfl, hJ, Below.refl _ _⟩
          · intro a gh w5 hag hJ hd
            dsimp only [bareO]
            have ag3 : a.tmps.getD 3 undef = .pointer (some ⟨cb, 0, none⟩) := hag.kept 3 (by kernel_rfl)
            clear hag
            go_wp2_with fail
            exact ⟨rfl, _, rfl, rfl, hJ, Below.refl _ _⟩
          · intro a gh w5 hag hJ hd
            dsimp only [bareO]
            clear hag
            have e0 : a.tmps.getD 41 undef = .pointer (some ⟨cb, 0, none⟩) := hd 3 (by kernel_rfl) _ rfl
            have k0 := ((Lr.below hJ) 0 _ rfl).1
            have k1 := ((Lr.below hJ) 1 _ rfl).1
            go_wp2_with fail
            exact ⟨rfl, _, rfl, rfl, hJ, Below.refl _ _⟩
          · intro a gh w5 hag hJ hd
            dsimp only [bareO]
            clear hag
            have e0 : a.tmps.getD 40 undef = .int .i64 av := hd 2 (by kernel_rfl) _ rfl
            have e1 : a.tmps.getD 42 undef = .int .i64 j := hd 4 (by kernel_rfl) _ rfl
            go_wp2_with fail
            exact ⟨rfl, _, rfl, by first | exact congrArg (Value.int .i64) haj | rw [haj] | rfl, hJ, Below.refl _ _⟩
          · intro a gh w5 hag hJ hd
            dsimp only [bareO]
            clear hag
            have e0 : a.tmps.getD 38 undef = .agg #[.int .i64 j, .slice A1 l.length c1] := hd 0 (by kernel_rfl) _ rfl
            have e1 : a.tmps.getD 43 undef = .int .i64 aj := hd 5 (by kernel_rfl) _ rfl
            go_wp2_with fail
            refine (HAL.out w5 (hrl.below hJ)).mono ?_
            rintro e w6 ⟨y9, S9, rfl, ow9, fr9, hb9⟩
            have hr9 := ow9.rd
            obtain ⟨A9, c9, rfl, _, _⟩ := RdS.form hr9
            go_wp2_with fail
            exact ⟨rfl, _, rfl, ⟨A9, c9, rfl, OwG.of_fresh ow9 fr9 hJ.size⟩, bl_trans hJ hb9, hb9⟩
          · intro a gh w5 hag hJ hd
            dsimp only [bareO]
            clear hag
            obtain ⟨A', c', e0, h2⟩ : ∃ (A' : Option Addr) (c' : Nat), a.tmps.getD 44 undef = .tuple #[.agg #[.int .i64 n', .slice A' l'.length c'], .bool ok] ∧ OwG wr.heap.size (fun w S => OwBody w S (.slice A' l'.length c') l') 1 gh w5 := hd 6 (by kernel_rfl) _ rfl
            go_wp2_with fail
            exact ⟨rfl, _, rfl, ⟨A', c', rfl, h2.same _⟩, hJ, Below.refl _ _⟩
          · intro a gh w5 hag hJ hd
            dsimp only [bareO]
            clear hag
            obtain ⟨A', c', e0, h2⟩ : ∃ (A' : Option Addr) (c' : Nat), a.tmps.getD 37 undef = .tuple #[.agg #[.int .i64 n', .slice A' l'.length c'], .bool ok] ∧ OwG wr.heap.size (fun w S => OwBody w S (.slice A' l'.length c') l') 1 gh w5 := hd 7 (by kernel_rfl) _ rfl
            go_wp2_with fail
            exact ⟨rfl, _, rfl, ⟨A', c', rfl, h2.same _⟩, hJ, Below.refl _ _⟩
          · intro a gh w5 hag hJ hd
            dsimp only [bareO]
            clear hag
            obtain ⟨A', c', e0, h2⟩ : ∃ (A' : Option Addr) (c' : Nat), a.tmps.getD 37 undef = .tuple #[.agg #[.int .i64 n', .slice A' l'.length c'], .bool ok] ∧ OwG wr.heap.size (fun w S => OwBody w S (.slice A' l'.length c') l') 1 gh w5 := hd 7 (by kernel_rfl) _ rfl
            go_wp2_with fail
            exact ⟨rfl, _, rfl, rfl, hJ, Below.refl _ _⟩
          · intro a gh w5 hag hJ hd
            dsimp only [bareO]
            clear hag
            go_wp2_with fail
            exact ⟨rfl, _, rfl, ⟨w5.heap.size, rfl, hJ.size, Loc.new w5 #[.int .i64 0, .slice none 0 0] 26, if_neg (Nat.lt_irrefl _), by simp⟩, hJ.alloc hJ.size _, (Below.refl _ _).alloc (Nat.le_refl _) _⟩
        · intro a gh w5 hag hJ hd
          have ag0 : a.tmps.getD 0 undef = .slice A bs.length c := hag.kept 0 (by kernel_rfl)
          have ag1 : a.tmps.getD 1 undef = undef := hag.kept 1 (by kernel_rfl)
          have ag2 : a.tmps.getD 2 undef = u2 := hag.kept 2 (by kernel_rfl)
          have ag3 : a.tmps.getD 3 undef = .pointer (some ⟨cb, 0, none⟩) := hag.kept 3 (by kernel_rfl)
          have ag4 : a.tmps.getD 4 undef = .int .i64 ((2 * (j - 1) : Nat) : Int) := hag.kept 4 (by kernel_rfl)
          have ag5 : a.tmps.getD 5 undef = .slice Ae es.length ce := hag.kept 5 (by kernel_rfl)
          have ag6 : a.tmps.getD 6 undef = .int .i64 j := hag.kept 6 (by kernel_rfl)
          have ag7 : a.tmps.getD 7 undef = u7 := hag.kept 7 (by kernel_rfl)
          have ag10 : a.tmps.getD 10 undef = undef := hag.kept 10 (by kernel_rfl)
          rw [act106fb hag.size hag.defers]
          clear hag
          obtain ⟨A', c', e0, h2⟩ : ∃ (A' : Option Addr) (c' : Nat), a.tmps.getD 45 undef = .agg #[.int .i64 n', .slice A' l'.length c'] ∧ OwG wr.heap.size (fun w S => OwBody w S (.slice A' l'.length c') l') 1 gh w5 := hd 8 (by kernel_rfl) _ rfl
          obtain ⟨xb, e8, hxb, Lx, hgx, hxlt⟩ : ∃ xb, a.tmps.getD 8 undef = .pointer (some ⟨xb, 0, none⟩) ∧ wr.heap.size ≤ xb ∧ Loc w5 xb [.int .i64 0, .slice none 0 0] ∧ gh xb = 2 ∧ xb < w5.heap.size := hd 10 (by kernel_rfl) _ rfl
          have e9 : a.tmps.getD 46 undef = .bool ok := hd 9 (by kernel_rfl) _ rfl
          rw [ag0, ag1, ag2, ag3, ag4, ag5, ag6, ag7, ag10, e0, e8, e9]
          change wpList _ _ _ [_, _] _ _
          obtain ⟨S9, ow9, hnd9, hcl9⟩ := h2
          have hxS : ∀ b ∈ S9, b ∉ [xb] := fun b hb hb' => by have h1 := (hcl9 b hb).2; simp at hb'; subst hb'; omega
          have HX := Lib.hid hxS
          have HOW := Lib.hid ow9
          have x0 := (Lx 0 _ rfl).1
          have x1 := (Lx 1 _ rfl).1
          have f0 := (Lx 0 _ rfl).2
          have f1 := (Lx 1 _ rfl).2
          clear hd hcl9 ow9 hxS hgx hnd9
          go_wp2_with fail
          go_meet
          case rel =>
            have hch : Chg [xb] w5 ((w5.setCell ⟨xb, 0, none⟩ (.int .i64 n')).setCell ⟨xb, 1, none⟩ (.slice A' l'.length c')) := by repeat' (first | (with_reducible exact Chg.refl _ _) | (with_reducible refine chg_set ?_ (by simp)))
            exact ⟨xb, A', c', rfl, rfl, (Lx.set (i := 0) (u := .int .i64 n') (v := .int .i64 0) rfl).set (i := 1) (u := .slice A' l'.length c') (v := .slice none 0 0) rfl, (HOW.out.chg hch HX.out).rd, Below.chg hJ hch hJ.size (by simp; omega)⟩
        · intro a gh w5 hag hJ hd
          have ag0 : a.tmps.getD 0 undef = .slice A bs.length c := hag.kept 0 (by kernel_rfl)
          have ag1 : a.tmps.getD 1 undef = undef := hag.kept 1 (by kernel_rfl)
          have ag2 : a.tmps.getD 2 undef = u2 := hag.kept 2 (by kernel_rfl)
          have ag3 : a.tmps.getD 3 undef = .pointer (some ⟨cb, 0, none⟩) := hag.kept 3 (by kernel_rfl)
          have ag4 : a.tmps.getD 4 undef = .int .i64 ((2 * (j - 1) : Nat) : Int) := hag.kept 4 (by kernel_rfl)
          have ag5 : a.tmps.getD 5 undef = .slice Ae es.length ce := hag.kept 5 (by kernel_rfl)
          have ag6 : a.tmps.getD 6 undef = .int .i64 j := hag.kept 6 (by kernel_rfl)
          have ag7 : a.tmps.getD 7 undef = u7 := hag.kept 7 (by kernel_rfl)
          have ag10 : a.tmps.getD 10 undef = undef := hag.kept 10 (by kernel_rfl)
          rw [act106fb hag.size hag.defers]
          clear hag
          obtain ⟨A', c', e0, h2⟩ : ∃ (A' : Option Addr) (c' : Nat), a.tmps.getD 45 undef = .agg #[.int .i64 n', .slice A' l'.length c'] ∧ OwG wr.heap.size (fun w S => OwBody w S (.slice A' l'.length c') l') 1 gh w5 := hd 8 (by kernel_rfl) (by decide) _ rfl
          obtain ⟨xb, e8, hxb, Lx, hgx, hxlt⟩ : ∃ xb, a.tmps.getD 8 undef = .pointer (some ⟨xb, 0, none⟩) ∧ wr.heap.size ≤ xb ∧ Loc w5 xb [.int .i64 0, .slice none 0 0] ∧ gh xb = 2 ∧ xb < w5.heap.size := hd 10 (by kernel_rfl) (by decide) _ rfl
          obtain ⟨A2, c2, e37, _⟩ : ∃ (A' : Option Addr) (c' : Nat), a.tmps.getD 37 undef = .tuple #[.agg #[.int .i64 n', .slice A' l'.length c'], .bool ok] ∧ OwG wr.heap.size (fun w S => OwBody w S (.slice A' l'.length c') l') 1 gh w5 := hd 7 (by kernel_rfl) (by decide) _ rfl
          rw [ag0, ag1, ag2, ag3, ag4, ag5, ag6, ag7, ag10, e0, e8, e37]
          change wpList _ _ _ [_, _, _] _ _
          obtain ⟨S9, ow9, hnd9, hcl9⟩ := h2
          have hxS : ∀ b ∈ S9, b ∉ [xb] := fun b hb hb' => by have h1 := (hcl9 b hb).2; simp at hb'; subst hb'; omega
          have HX := Lib.hid hxS
          have HOW := Lib.hid ow9
          have x0 := (Lx 0 _ rfl).1
          have x1 := (Lx 1 _ rfl).1
          have f0 := (Lx 0 _ rfl).2
          have f1 := (Lx 1 _ rfl).2
          clear hd hcl9 ow9 hxS hgx hnd9
          go_wp2_with fail
          go_meet
          case rel =>
            have hch : Chg [xb] w5 ((w5.setCell ⟨xb, 0, none⟩ (.int .i64 n')).setCell ⟨xb, 1, none⟩ (.slice A' l'.length c')) := by repeat' (first | (with_reducible exact Chg.refl _ _) | (with_reducible refine chg_set ?_ (by simp)))
            exact ⟨xb, A', c', rfl, rfl, (Lx.set (i := 0) (u := .int .i64 n') (v := .int .i64 0) rfl).set (i := 1) (u := .slice A' l'.length c') (v := .slice none 0 0) rfl, (HOW.out.chg hch HX.out).rd, Below.chg hJ hch hJ.size (by simp; omega)⟩
      case rest =>
        obtain ⟨xb, A', c', rfl, rfl, Lx, hrx, hbx⟩ := hcut
        have Lr2 := Lr.below hbx
        have hrl2 := hrl.below hbx
        have hbw2 := bl_trans hbw hbx
        have hlb : ((j : Int) - 1 ≤ lenF l) ∧ lenF l ≤ 1100 := by
          have h1 := lenF_bd (fun t ht => (limb_bd (List.all_eq_true.1 (body_parts Hok.out).2.2.1 t ht)).2.2) l.length (Nat.le_refl _)
          have h2 := (body_parts Hok.out).2.1
          rw [List.take_length] at h1
          omega
        have b0 := (Lr2 0 _ rfl).1
        have b1 := (Lr2 1 _ rfl).1
        have hLL := lengthOf_t j _ l _ hrl2 Hok.out
        have HLX : Hid (ok = true → ∀ W, RdL cLimb 3 W (.slice A' l'.length c') l' → Calls Try.prog 12 #[.agg #[.int .i64 n', .slice A' l'.length c']] W fun e w' => e = .returned (.int .i64 (lenF l + 7)) ∧ Below W.heap.size W w') := fun ht W hr => by
          rcases HOK7.out with ⟨_, _, e1, e2, e3⟩ | ⟨_, e1⟩
          · have := lengthOf_t (j + 1) _ l' W hr e2
            rw [e3, ← e1] at this
            exact this
          · rw [ht] at e1; cases e1
        generalize lenF l = ln at *
        go_wp2_with fail
        refine hLL.mono ?_
        rintro e w7 ⟨rfl, hb7⟩
        have Lr3 := Lr2.below hb7
        have Lx3 := Lx.below hb7
        have hrl3 := hrl2.below hb7
        have hrx3 := hrx.below hb7
        have hbw3 := bl_trans hbw2 hb7
        clear hLL b0 b1 Lr2 Lx hrl2 hrx hbw2 hb7
        have b0 := (Lr3 0 _ rfl).1
        have b1 := (Lr3 1 _ rfl).1
        have hBO := implBodyOk_any j _ l _ hrl3
        rw [Hok.out] at hBO
        have hs1 : (((2 * (j - 1) : Nat) : Int) == 2 * ((j : Int) - 1)) = true := by rw [beq_iff_eq]; omega
        go_wp2_with fail
        refine hBO.mono ?_
        rintro e w8 ⟨rfl, hb8⟩
        have Lr4 := Lr3.below hb8
        have Lx4 := Lx3.below hb8
        have hrx4 := hrx3.below hb8
        have hbw4 := bl_trans hbw3 hb8
        clear hBO b0 b1 Lr3 Lx3 hrl3 hrx3 hbw3 hb8
        have b0 := (Lr4 0 _ rfl).1
        have b1 := (Lr4 1 _ rfl).1
        have x0 := (Lx4 0 _ rfl).1
        have x1 := (Lx4 1 _ rfl).1
        have hHX := HLX.out
        rcases HOK7.out with ⟨hj12, rfl, rfl, _, _⟩ | ⟨hj12, rfl⟩
        · replace hHX := hHX rfl w8 hrx4
          rw [show ((j + 1 : Nat) : Int) = (j : Int) + 1 by omega] at hHX x0 Lx4
          have hd1 : decide ((j : Int) < 12) = true := decide_eq_true (by omega)
          clear HOK7 HLX HAL
          by_cases hj2 : (j : Int) < 2
          · have he : j ≤ es.length := by have := HE2.out; omega
            go_wp2_with fail
            refine hHX.mono ?_
            rintro e w9 ⟨rfl, hb9⟩
            replace b0 := carry hb9 b0
            replace b1 := carry hb9 b1
            replace x0 := carry hb9 x0
            replace x1 := carry hb9 x1
            have hbw9 := bl_trans hbw4 hb9
            go_wp2_with fail
            refine (implSample_any _).mono ?_
            rintro e w10 ⟨v, rfl, own10, hb10⟩
            obtain ⟨A10, c10, rfl, _, _⟩ := (RdS.of_own own10).form
            have h6 : sampleL.length = 6 := rfl
            rw [h6]
            clear h6
            have hfd : ∀ w, (Instr.field 26 (.agg #[.int .i64 7, .slice A10 6 c10]) 1).run Try.prog w = .ok (.slice A10 6 c10) w := fun _ => by kernel_rfl
            go_wp2_with fail
            go_ret
            exact ⟨rfl, bl_trans hbw9 hb10⟩
          · have he : 2 ≤ es.length := by have := HE2.out; omega
            go_wp2_with fail
            refine hHX.mono ?_
            rintro e w9 ⟨rfl, hb9⟩
            replace b0 := carry hb9 b0
            replace b1 := carry hb9 b1
            replace x0 := carry hb9 x0
            replace x1 := carry hb9 x1
            have hbw9 := bl_trans hbw4 hb9
            go_wp2_with fail
            refine (implSample_any _).mono ?_
            rintro e w10 ⟨v, rfl, own10, hb10⟩
            obtain ⟨A10, c10, rfl, _, _⟩ := (RdS.of_own own10).form
            have h6 : sampleL.length = 6 := rfl
            rw [h6]
            clear h6
            have hfd : ∀ w, (Instr.field 26 (.agg #[.int .i64 7, .slice A10 6 c10]) 1).run Try.prog w = .ok (.slice A10 6 c10) w := fun _ => by kernel_rfl
            go_wp2_with fail
            go_ret
            exact ⟨rfl, bl_trans hbw9 hb10⟩
        · have hj12' : ¬ j < 12 := by omega
          have hd1 : decide ((j : Int) < 12) = false := decide_eq_false (by omega)
          clear HOK7 HLX HAL hHX hj12
          by_cases hj2 : (j : Int) < 2
          · omega
          · have he : 2 ≤ es.length := by have := HE2.out; omega
            have hbw9 := hbw4
            go_wp2_with fail
            refine (implSample_any _).mono ?_
            rintro e w10 ⟨v, rfl, own10, hb10⟩
            obtain ⟨A10, c10, rfl, _, _⟩ := (RdS.of_own own10).form
            have h6 : sampleL.length = 6 := rfl
            rw [h6]
            clear h6
            have hfd : ∀ w, (Instr.field 26 (.agg #[.int .i64 7, .slice A10 6 c10]) 1).run Try.prog w = .ok (.slice A10 6 c10) w := fun _ => by kernel_rfl
            go_wp2_with fail
            go_ret
            exact ⟨rfl, bl_trans hbw9 hb10⟩
set_option maxRecDepth 100000 in
set_option maxHeartbeats 1000000 in
theorem fnBodies_lifted (os : Os) (started : os.Started) (H : Type) (enc : TypeId × Value → H) :
    ReturnsInHanded {} Try.checked os 3 .any (Rows.fnBodiesSpec.pre6 enc Try.prog Try.f3 Rows.fnBodiesRow.domain false) (Rows.fnBodiesSpec.post enc Try.prog Try.f3 false true false false) := by
  refine returnsInHanded_of_change (C := Try.checked) tryOwn started (by kernel_rfl) Try.func3
    (ChangeSpec.witness6 (enc := enc) (C := Try.checked) false ⟨#[], #[.slice none 0 0], []⟩ 12 (by kernel_rfl) (by kernel_rfl) (by kernel_rfl) (by kernel_rfl)) ?_
  intro W base args ds gs before hval0 hW hcnd _
  have hval : ∀ (j : Nat) t v, Try.f3.params[j]? = some t → args[j]? = some v → Value.okWide Try.prog W .any base t v := hval0
  have hW' := hW
  obtain ⟨p, q, hA0, hV, rfl, hfz, hnd⟩ := hW
  have hA : DataW.TrodAll enc Try.prog W 0 (fun _ => true) true Try.f3.params.toList args.toList ds p := hA0
  rw [Try.params3] at hA hval
  obtain ⟨v0, vs0, d0, ds0, p0, q0, hargs, rfl, rfl, h0, r0⟩ := trodAll_cons hA
  obtain ⟨rfl, rfl, rfl⟩ := trodAll_nil r0
  obtain rfl : args = #[v0] := by cases args; simp_all
  obtain ⟨rfl, rfl⟩ := trodVars_none hV
  have e0 := h0
  have lt0 : ∀ x ∈ p0, x.block < W.heap.size := by obtain ⟨m, hm⟩ := e0; exact DataW.trod_lt m _ _ _ hm
  have ok0 := hval 0 22 v0 rfl rfl
  clear hA0 hval0 hval
  obtain ⟨xs, hrd, hby⟩ := arg_slice Try.underlying22 ok0 h0 (opens_slice (f := cU8) (size := 1) Try.underlying22 (by kernel_rfl) (by omega) cU8_len (opens_u8 Try.underlying5))
  obtain ⟨A, c, rfl, _⟩ := RdS.form hrd
  refine (lawFnBodies_any A c xs W hrd hby).mono fun e W' ⟨he, bel⟩ => ?_
  subst he
  exact ⟨_, rfl, _, _, _, [], _, [], hW', trodAll_mk1 (shut_bool Try.underlying4 _), (trodAll_cons_mk (Below.trod tryLaid (by kernel_rfl) (of_decide_eq_true (by kernel_rfl)) e0 bel lt0) trodAll_mk0), rfl, bel.frame _, fun h => by cases h⟩

theorem fnBodies_holds : Rows.FnBodiesSaid :=
  OpenClaim.holds_of_wide 3 Try.f3 rfl rfl rfl rfl rfl rfl rfl ⟨rfl, rfl, rfl, rfl, rfl⟩ rfl rfl rfl rfl rfl (by kernel_rfl) Try.func3 (by kernel_rfl)
    (of_decide_eq_true (by kernel_rfl)) (by unfold Func.isWrapper; first | (rw [if_pos (by decide +kernel)]; kernel_rfl) | (rw [if_neg (by decide +kernel)]; exact ⟨rfl, rfl⟩))
    (fun os started H enc _ => fnBodies_lifted os started H enc)
#print axioms fnBodies_holds
end Go.Proofs.Ytomghkfkbpkbdaa
