/- Several texts in one: Contracts: why a company does not play (both). Written by a program (gen_k18.py). Contracts: GiveShow. Written by a program (gen_k19.py). -/
import Derived.Test.YtjbhlbcjljdjmaaBdKnx7
import Derived.Test.YtjbhlbcjljdjmaaBdK3x6
import Derived.Test.YtjbhlbcjljdjmaaBdY7x5
import Derived.Test.YtjbhlbcjljdjmaaBdK7x5
import Derived.Test.YtjbhlbcjljdjmaaBdM11x3
namespace Go.Proofs.Ytjbhlbcjljdjmaa
open Go.RowKit
theorem act30wi {a : Act} (h : a.tmps.size = 30) (hd : a.defers = []) : ∃ x0 x1 x2 x3 x4 x5 x6 x7 x8 x9 x10 x11 x12 x13 x14 x15 x16 x17 x18 x19 x20 x21 x22 x23 x24 x25 x26 x27 x28 x29 : Value, a = ⟨#[x0, x1, x2, x3, x4, x5, x6, x7, x8, x9, x10, x11, x12, x13, x14, x15, x16, x17, x18, x19, x20, x21, x22, x23, x24, x25, x26, x27, x28, x29], []⟩ := by
  obtain ⟨⟨l⟩, d⟩ := a
  subst hd
  match l, h with
  | x0 :: x1 :: x2 :: x3 :: x4 :: x5 :: x6 :: x7 :: x8 :: x9 :: x10 :: x11 :: x12 :: x13 :: x14 :: x15 :: x16 :: x17 :: x18 :: x19 :: x20 :: x21 :: x22 :: x23 :: x24 :: x25 :: x26 :: x27 :: x28 :: x29 :: [], _ => exact ⟨x0, x1, x2, x3, x4, x5, x6, x7, x8, x9, x10, x11, x12, x13, x14, x15, x16, x17, x18, x19, x20, x21, x22, x23, x24, x25, x26, x27, x28, x29, rfl⟩
def pwi (gc pn m n2 B N : Nat) (A2 : Option Addr) (xs : List Value) (i : Nat) (v : Value) (_ : Nat → Nat) (w : World) : Prop :=
  match i with
  | 0 => v = .pointer (some ⟨gc, 2, none⟩)
  | 1 => v = .slice A2 pn n2
  | 2 => v = .pointer (some ⟨gc, 0, none⟩)
  | 3 => v = .int .i64 m
  | 4 => ∃ A c, v = .slice A N c ∧ w.ownsRow B 3 1 (.slice A N c) N xs
  | _ => True
set_option maxHeartbeats 8000000 in
set_option maxRecDepth 100000 in
theorem implWhyNot_any (n : Int) (v1 v2 : Value) (cs : List RCross) (pl : List RPl) (w : World) (h : RdCompany w v1 v2 cs pl) :
    Calls Try.prog 22 #[.agg #[.int .i64 n, v1, v2]] w fun e w' => e = .returned (.int .i64 (whyF n cs pl)) ∧ Below w.heap.size w w' := by
  have h0 := h
  obtain ⟨⟨A1, n1, rfl⟩, ⟨A2, n2, rfl⟩⟩ := h.forms
  have hbW : Below w.heap.size w (w.alloc (.cells #[.int .i64 n, .slice A1 cs.length n1, .slice A2 pl.length n2] 47)) := by (repeat' (first | (with_reducible exact Below.refl _ _) | (with_reducible assumption) | (with_reducible refine Below.setCell ?_ (by first | omega | (simp; omega) | (simp; done)) _) | (with_reducible refine Below.alloc ?_ (by first | omega | (simp; omega) | (simp; done)) _) | (with_reducible refine Below.drew ?_) | (with_reducible refine below_drewN ?_ _)))
  have Lc0 : Loc (w.alloc (.cells #[.int .i64 n, .slice A1 cs.length n1, .slice A2 pl.length n2] 47)) w.heap.size [.int .i64 n, .slice A1 cs.length n1, .slice A2 pl.length n2] := Loc.new w #[.int .i64 n, .slice A1 cs.length n1, .slice A2 pl.length n2] 47
  go_enter Try.func22, Try.ntmps22
  go_upto_region 1 with (fail)
  obtain ⟨gc, hgc⟩ : ∃ g, w.heap.size = g := ⟨_, rfl⟩
  rw [hgc] at Lc0
  generalize w.alloc (.cells #[.int .i64 n, .slice A1 cs.length n1, .slice A2 pl.length n2] 47) = W0 at *
  (try rw [hgc])
  have hgw : gc < W0.heap.size := World.block_lt_of_cell? _ _ (Lc0 0 _ rfl).1
  have c0 := (Lc0 0 _ rfl).1
  have c1 := (Lc0 1 _ rfl).1
  have c2 := (Lc0 2 _ rfl).1
  go_wp2_with fail
  refine twoB (implCompanyOk_any n _ _ cs pl _ (h0.below hbW)) (fun w1 hq hb1 => ?_) (fun w1 hq hb1 => ?_)
  · have Hq := hq
    have hcr := (company_n hq.out).1
    obtain ⟨hn, hlen, hcs⟩ := crosses_len hcr
    obtain ⟨m, rfl⟩ := Int.eq_ofNat_of_zero_le (show 0 ≤ n by omega)
    have hm7 : m ≤ 7 := by omega
    have Hcr := Lib.hid hcr
    have hm1 : 1 ≤ m := by omega
    have Lc1 := Lc0.below hb1
    have hb01 := bl_trans hbW hb1
    have hr1 := (h0.below hb01).1
    have HO := Lib.hid (IsOrd.order hcs)
    clear c0 c1 c2 hb1 hbW Lc0 hcr hcs
    have c0 := (Lc1 0 _ rfl).1
    have c1 := (Lc1 1 _ rfl).1
    have c2 := (Lc1 2 _ rfl).1
    have hCH : Calls Try.prog 63 #[.int .i64 m, .slice A1 cs.length n1] w1 fun e w' => e = .returned (.bool (decide (orderF m cs = upN m))) ∧ Below w1.heap.size w1 w' := implIsHome_any m _ cs w1 hr1 Hcr.out
    go_wp2_with fail
    refine twoB hCH (fun wz ho hbz => ?_) (fun wz ho hbz => ?_)
    all_goals
      have Lz := Lc1.below hbz
      have hb0z := bl_trans hb01 hbz
      clear hCH c0 c1 c2 Lc1 hb01 hr1 hbz
      first | have HOM : Hid (orderF (m : Int).toNat cs = upN (m : Int).toNat) := (show orderF m cs = upN m from of_decide_eq_true ho.out) | have HNO : Hid (¬ orderF (m : Int).toNat cs = upN (m : Int).toNat) := (show ¬ orderF m cs = upN m from of_decide_eq_false ho.out)
      clear ho
    · have Ho : Hid (orderF (m : Int).toNat cs = upN (m : Int).toNat) := HOM
      have HU : Hid (∀ W v, RdL cCross 2 W v cs → Calls Try.prog 64 #[.int .i64 m, v] W fun e w' => ∃ v', e = .returned v' ∧ RowsX [] W.heap.size w' v' (woundL m cs) ∧ Below W.heap.size W w') := fun W v hr => implWound_any m v cs W hr Hcr.out
      have hCU := HU.out wz _ ((h0.below hb0z).1)
      clear HU HOM
      have c0 := (Lz 0 _ rfl).1
      have c1 := (Lz 1 _ rfl).1
      go_wp2_with fail
      refine hCU.mono ?_
      rintro e w3 ⟨vw, rfl, hrx, hb3⟩
      obtain ⟨Aw, cw, rfl, _, _⟩ := hrx.rd.form
      obtain ⟨wl, hwl⟩ : ∃ wl, (woundL m cs).length = wl := ⟨_, rfl⟩
      rw [hwl]
      have HL0 := Lib.hid hwl
      have Lc3 := Lz.below hb3
      have hb := bl_trans hb0z hb3
      have hzW := hb.size
      clear hCU hrx c0 c1 Lz hb3 hb0z hwl
      by_cases hw0 : wl = 0
      · subst hw0
        have HL := HL0
        have Lc := Lc3
        obtain ⟨W, hW⟩ : ∃ W, w3 = W := ⟨_, rfl⟩
        subst hW
        go_upto_region 7 with (fail)
        obtain ⟨W, hW⟩ : ∃ W, w3 = W := ⟨_, rfl⟩
        rw [hW] at hb hzW Lc ⊢
        clear Lc3 HL0 hW
        go_upto_region 7 with (fail)
        refine region_made (n := 30) 5 (by kernel_rfl) rfl (by kernel_rfl) (fun w' => Below W.heap.size W w') (fun _ => 0) (pwi gc pl.length m n2 W.heap.size (upN m).length A2 ((upN m).flatMap cInt)) (Below.refl _ _).drew ?_ ?_ ?_
        · intro i v gh gh' w1 w2 hp hJ hb' hg
          match i, hp with
          | 0, hp => exact hp
          | 1, hp => exact hp
          | 2, hp => exact hp
          | 3, hp => exact hp
          | 4, ⟨A', c', hv, ho⟩ => exact ⟨A', c', hv, own_below ho hb'⟩
          | _ + 5, _ => trivial
        · refine ⟨?_, ?_, ?_, ?_, ?_, trivial⟩
          · intro a gh w5 hag hJ hd
            have ag1 : a.tmps.getD 1 undef = .pointer (some ⟨gc, 0, none⟩) := hag.kept 1 (by kernel_rfl)
            clear hag
            go_wp2_with fail
            exact ⟨rfl, _, rfl, rfl, hJ, Below.refl _ _⟩
          · intro a gh w5 hag hJ hd
            clear hag
            have e0 : a.tmps.getD 23 undef = .pointer (some ⟨gc, 2, none⟩) := hd 0 (by kernel_rfl) _ rfl
            have k2 := ((Lc.below hJ) 2 _ rfl).1
            go_wp2_with fail
            exact ⟨rfl, _, rfl, rfl, hJ, Below.refl _ _⟩
          · intro a gh w5 hag hJ hd
            have ag1 : a.tmps.getD 1 undef = .pointer (some ⟨gc, 0, none⟩) := hag.kept 1 (by kernel_rfl)
            clear hag
            go_wp2_with fail
            exact ⟨rfl, _, rfl, rfl, hJ, Below.refl _ _⟩
          · intro a gh w5 hag hJ hd
            clear hag
            have e0 : a.tmps.getD 25 undef = .pointer (some ⟨gc, 0, none⟩) := hd 2 (by kernel_rfl) _ rfl
            have k0 := ((Lc.below hJ) 0 _ rfl).1
            go_wp2_with fail
            exact ⟨rfl, _, rfl, rfl, hJ, Below.refl _ _⟩
          · intro a gh w5 hag hJ hd
            clear hag
            have e0 : a.tmps.getD 26 undef = .int .i64 m := hd 3 (by kernel_rfl) _ rfl
            go_wp2_with fail
            refine (upTo_any m w5 (by omega)).mono ?_
            rintro e w6 ⟨v5, rfl, own5, hb5⟩
            obtain ⟨A5, c5, rfl, _, _⟩ := (RdS.of_own own5).form
            go_wp2_with fail
            exact ⟨rfl, _, rfl, ⟨A5, c5, rfl, own_mono own5 hJ.size⟩, bl_trans hJ hb5, hb5⟩
        · intro a gh w5 hag hJ hd
          obtain ⟨x0, x1, x2, x3, x4, x5, x6, x7, x8, x9, x10, x11, x12, x13, x14, x15, x16, x17, x18, x19, x20, x21, x22, x23, x24, x25, x26, x27, x28, x29, rfl⟩ := act30wi hag.size hag.defers
          have ag0 : x0 = .agg #[.int .i64 m, .slice A1 cs.length n1, .slice A2 pl.length n2] := hag.kept 0 (by kernel_rfl)
          have ag1 : x1 = .pointer (some ⟨gc, 0, none⟩) := hag.kept 1 (by kernel_rfl)
          have ag2 : x2 = .int .i64 0 := hag.kept 2 (by kernel_rfl)
          clear hag
          subst ag0 ag1 ag2
          have e1 : x24 = .slice A2 pl.length n2 := hd 1 (by kernel_rfl) _ rfl
          obtain ⟨A5, c5, e2, own5⟩ : ∃ A c, x27 = .slice A (upN m).length c ∧ w5.ownsRow W.heap.size 3 1 (.slice A (upN m).length c) (upN m).length ((upN m).flatMap cInt) := hd 4 (by kernel_rfl) _ rfl
          subst e1 e2
          change wpList _ _ _ [_, _, _] _ _
          have hC := canPlay_any _ _ (upN m) pl w5 ((h0.below (hb.trans (hJ.mono hzW))).2) (RdS.of_own own5)
          obtain ⟨cb, hcb⟩ : ∃ cb, canF pl (upN m) = cb := ⟨_, rfl⟩
          rw [hcb] at hC
          have HCB := Lib.hid hcb
          have hb5 := hb.trans (hJ.mono hzW)
          clear hcb hJ hd own5
          go_wp2_with fail
          refine hC.mono ?_
          rintro e w6 ⟨rfl, hb6⟩
          have hb06 := bl_trans hb5 hb6
          cases cb
          · have HW := Lib.hid (whyF_3 (n := m) Hq.out Ho.out (List.eq_nil_of_length_eq_zero HL.out) HCB.out)
            go_wp2_with fail
            go_ret
            exact ⟨by rw [HW.out] <;> rfl, hb06⟩
          · have HW := Lib.hid (whyF_0 (n := m) Hq.out Ho.out (List.eq_nil_of_length_eq_zero HL.out) HCB.out)
            go_wp2_with fail
            go_ret
            exact ⟨by rw [HW.out] <;> rfl, hb06⟩
      · have hgt : (0 : Int) < (wl : Int) := by omega
        have HW := Lib.hid (whyF_2 (n := m) (pl := pl) Hq.out Ho.out (fun e => hw0 (by rw [← HL0.out]; show (woundL ((m : Int)).toNat cs).length = 0; rw [e]; rfl)))
        go_wp2_with fail
        go_ret
        exact ⟨by rw [HW.out] <;> rfl, hb⟩
    · have HW := Lib.hid (whyF_1 (n := m) (pl := pl) Hq.out HNO.out)
      go_wp2_with fail
      go_ret
      exact ⟨by rw [HW.out] <;> rfl, hb0z⟩
  · have HW := Lib.hid (whyF_m hq.out)
    go_wp2_with fail
    go_ret
    exact ⟨by rw [HW.out] <;> rfl, bl_trans hbW hb1⟩
theorem act30ws {a : Act} (h : a.tmps.size = 30) (hd : a.defers = []) : ∃ x0 x1 x2 x3 x4 x5 x6 x7 x8 x9 x10 x11 x12 x13 x14 x15 x16 x17 x18 x19 x20 x21 x22 x23 x24 x25 x26 x27 x28 x29 : Value, a = ⟨#[x0, x1, x2, x3, x4, x5, x6, x7, x8, x9, x10, x11, x12, x13, x14, x15, x16, x17, x18, x19, x20, x21, x22, x23, x24, x25, x26, x27, x28, x29], []⟩ := by
  obtain ⟨⟨l⟩, d⟩ := a
  subst hd
  match l, h with
  | x0 :: x1 :: x2 :: x3 :: x4 :: x5 :: x6 :: x7 :: x8 :: x9 :: x10 :: x11 :: x12 :: x13 :: x14 :: x15 :: x16 :: x17 :: x18 :: x19 :: x20 :: x21 :: x22 :: x23 :: x24 :: x25 :: x26 :: x27 :: x28 :: x29 :: [], _ => exact ⟨x0, x1, x2, x3, x4, x5, x6, x7, x8, x9, x10, x11, x12, x13, x14, x15, x16, x17, x18, x19, x20, x21, x22, x23, x24, x25, x26, x27, x28, x29, rfl⟩
def pws (gc pn cn m n1 n2 B N : Nat) (A1 A2 : Option Addr) (xs : List Value) (i : Nat) (v : Value) (_ : Nat → Nat) (w : World) : Prop :=
  match i with
  | 0 => v = .pointer (some ⟨gc, 2, none⟩)
  | 1 => v = .slice A2 pn n2
  | 2 => v = .agg #[.int .i64 m, .slice A1 cn n1, .slice A2 pn n2]
  | 3 => ∃ A c, v = .slice A N c ∧ w.ownsRow B 3 1 (.slice A N c) N xs
  | _ => True
set_option maxHeartbeats 8000000 in
set_option maxRecDepth 100000 in
theorem specWhyNot_any (n : Int) (v1 v2 : Value) (cs : List RCross) (pl : List RPl) (w : World) (h : RdCompany w v1 v2 cs pl) :
    Calls Try.prog 20 #[.agg #[.int .i64 n, v1, v2]] w fun e w' => e = .returned (.int .i64 (whyF n cs pl)) ∧ Below w.heap.size w w' := by
  have h0 := h
  obtain ⟨⟨A1, n1, rfl⟩, ⟨A2, n2, rfl⟩⟩ := h.forms
  have hbW : Below w.heap.size w (w.alloc (.cells #[.int .i64 n, .slice A1 cs.length n1, .slice A2 pl.length n2] 47)) := by (repeat' (first | (with_reducible exact Below.refl _ _) | (with_reducible assumption) | (with_reducible refine Below.setCell ?_ (by first | omega | (simp; omega) | (simp; done)) _) | (with_reducible refine Below.alloc ?_ (by first | omega | (simp; omega) | (simp; done)) _) | (with_reducible refine Below.drew ?_) | (with_reducible refine below_drewN ?_ _)))
  have Lc0 : Loc (w.alloc (.cells #[.int .i64 n, .slice A1 cs.length n1, .slice A2 pl.length n2] 47)) w.heap.size [.int .i64 n, .slice A1 cs.length n1, .slice A2 pl.length n2] := Loc.new w #[.int .i64 n, .slice A1 cs.length n1, .slice A2 pl.length n2] 47
  go_enter Try.func20, Try.ntmps20
  go_upto_region 1 with (fail)
  obtain ⟨gc, hgc⟩ : ∃ g, w.heap.size = g := ⟨_, rfl⟩
  rw [hgc] at Lc0
  generalize w.alloc (.cells #[.int .i64 n, .slice A1 cs.length n1, .slice A2 pl.length n2] 47) = W0 at *
  (try rw [hgc])
  have hgw : gc < W0.heap.size := World.block_lt_of_cell? _ _ (Lc0 0 _ rfl).1
  have c0 := (Lc0 0 _ rfl).1
  have c1 := (Lc0 1 _ rfl).1
  have c2 := (Lc0 2 _ rfl).1
  go_wp2_with fail
  refine twoB (specCompanyOk_any n _ _ cs pl _ (h0.below hbW)) (fun w1 hq hb1 => ?_) (fun w1 hq hb1 => ?_)
  · have Hq := hq
    have hcr := (company_n hq.out).1
    obtain ⟨hn, hlen, hcs⟩ := crosses_len hcr
    obtain ⟨m, rfl⟩ := Int.eq_ofNat_of_zero_le (show 0 ≤ n by omega)
    have hm7 : m ≤ 7 := by omega
    have Hcr := Lib.hid hcr
    have hm1 : 1 ≤ m := by omega
    have Lc1 := Lc0.below hb1
    have hb01 := bl_trans hbW hb1
    have hr1 := (h0.below hb01).1
    have HO := Lib.hid (IsOrd.order hcs)
    clear c0 c1 c2 hb1 hbW Lc0 hcr hcs
    have c0 := (Lc1 0 _ rfl).1
    have c1 := (Lc1 1 _ rfl).1
    have c2 := (Lc1 2 _ rfl).1
    have hC := specOrderAfter_any (m : Int) _ cs w1 hr1
    rw [ordR_t Hcr.out] at hC
    go_wp2_with fail
    refine hC.mono ?_
    rintro e w2 ⟨v2, rfl, own2, hb2⟩
    have hr2 : RdL cInt 1 w2 v2 (orderF m cs) := RdS.of_own own2
    obtain ⟨B2, k2, rfl, _, _⟩ := hr2.form
    have hCI := specCountInv_any _ _ w2 hr2 (HO.out.okB ⟨hm1, hm7⟩)
    have HI : Hid (inv (orderF m cs) = 0 ↔ orderF m cs = upN m) := HO.out.inv_zero
    obtain ⟨ol, hol⟩ : ∃ ol, (orderF m cs).length = ol := ⟨_, rfl⟩
    rw [hol] at hCI hr2
    rw [hol]
    obtain ⟨I, hI⟩ : ∃ I, inv (orderF m cs) = I := ⟨_, rfl⟩
    rw [hI] at hCI HI
    have L2 := Lc1.below hb2
    have hb02 := bl_trans hb01 hb2
    clear own2 hb2 hC hol hI c0 c1 c2 Lc1 hb01 hr1
    go_wp2_with fail
    refine hCI.mono ?_
    rintro e wz ⟨rfl, hbz⟩
    have Lz := L2.below hbz
    have hb0z := bl_trans hb02 hbz
    clear hCI hr2 hbz hb02 L2
    by_cases hI0 : I = 0
    rotate_left
    · have HNO : Hid (¬ orderF (m : Int).toNat cs = upN (m : Int).toNat) := fun e => hI0 (HI.out.2 e)
      have hI1 : ((I : Int) != 0) = true := by rw [bne_iff_ne]; omega
      have HW := Lib.hid (whyF_1 (n := m) (pl := pl) Hq.out HNO.out)
      go_wp2_with fail
      go_ret
      exact ⟨by rw [HW.out] <;> rfl, hb0z⟩
    have HOM : Hid (orderF (m : Int).toNat cs = upN (m : Int).toNat) := HI.out.1 hI0
    subst hI0
    clear HI
    · have Ho : Hid (orderF (m : Int).toNat cs = upN (m : Int).toNat) := HOM
      have HU : Hid (∀ W v, RdL cCross 2 W v cs → Calls Try.prog 43 #[.int .i64 m, v] W fun e w' => ∃ v', e = .returned v' ∧ RowsX [] W.heap.size w' v' (woundL m cs) ∧ Below W.heap.size W w') := fun W v hr => specWound_any m v cs W hr Hcr.out
      have hCU := HU.out wz _ ((h0.below hb0z).1)
      clear HU HOM
      have c0 := (Lz 0 _ rfl).1
      have c1 := (Lz 1 _ rfl).1
      go_wp2_with fail
      refine hCU.mono ?_
      rintro e w3 ⟨vw, rfl, hrx, hb3⟩
      obtain ⟨Aw, cw, rfl, _, _⟩ := hrx.rd.form
      obtain ⟨wl, hwl⟩ : ∃ wl, (woundL m cs).length = wl := ⟨_, rfl⟩
      rw [hwl]
      have HL0 := Lib.hid hwl
      have Lc3 := Lz.below hb3
      have hb := bl_trans hb0z hb3
      have hzW := hb.size
      clear hCU hrx c0 c1 Lz hb3 hb0z hwl
      by_cases hw0 : wl = 0
      · subst hw0
        have HL := HL0
        have Lc := Lc3
        obtain ⟨W, hW⟩ : ∃ W, w3 = W := ⟨_, rfl⟩
        subst hW
        go_upto_region 7 with (fail)
        obtain ⟨W, hW⟩ : ∃ W, w3 = W := ⟨_, rfl⟩
        rw [hW] at hb hzW Lc ⊢
        clear Lc3 HL0 hW
        have HAP : Hid (∀ W, RdCompany W (.slice A1 cs.length n1) (.slice A2 pl.length n2) cs pl → Calls Try.prog 60 #[.agg #[.int .i64 m, .slice A1 cs.length n1, .slice A2 pl.length n2]] W fun e w' => ∃ v', e = .returned v' ∧ w'.ownsRow W.heap.size 3 1 v' (upN m).length ((upN m).flatMap cInt) ∧ Below W.heap.size W w') := fun W hr => by
          have := specAllPuppets_any m _ _ cs pl W hr
          rwa [allPF_t Hq.out] at this
        go_upto_region 7 with (fail)
        refine region_made (n := 30) 4 (by kernel_rfl) rfl (by kernel_rfl) (fun w' => Below W.heap.size W w') (fun _ => 0) (pws gc pl.length cs.length m n1 n2 W.heap.size (upN m).length A1 A2 ((upN m).flatMap cInt)) (Below.refl _ _).drew ?_ ?_ ?_
        · intro i v gh gh' w1 w2 hp hJ hb' hg
          match i, hp with
          | 0, hp => exact hp
          | 1, hp => exact hp
          | 2, hp => exact hp
          | 3, ⟨A', c', hv, ho⟩ => exact ⟨A', c', hv, own_below ho hb'⟩
          | _ + 4, _ => trivial
        · refine ⟨?_, ?_, ?_, ?_, trivial⟩
          · intro a gh w5 hag hJ hd
            have ag1 : a.tmps.getD 1 undef = .pointer (some ⟨gc, 0, none⟩) := hag.kept 1 (by kernel_rfl)
            clear hag
            go_wp2_with fail
            exact ⟨rfl, _, rfl, rfl, hJ, Below.refl _ _⟩
          · intro a gh w5 hag hJ hd
            clear hag
            have e0 : a.tmps.getD 24 undef = .pointer (some ⟨gc, 2, none⟩) := hd 0 (by kernel_rfl) _ rfl
            have k2 := ((Lc.below hJ) 2 _ rfl).1
            go_wp2_with fail
            exact ⟨rfl, _, rfl, rfl, hJ, Below.refl _ _⟩
          · intro a gh w5 hag hJ hd
            have ag1 : a.tmps.getD 1 undef = .pointer (some ⟨gc, 0, none⟩) := hag.kept 1 (by kernel_rfl)
            clear hag
            have k0 := ((Lc.below hJ) 0 _ rfl).1
            have k1 := ((Lc.below hJ) 1 _ rfl).1
            have k2 := ((Lc.below hJ) 2 _ rfl).1
            go_wp2_with fail
            exact ⟨rfl, _, rfl, rfl, hJ, Below.refl _ _⟩
          · intro a gh w5 hag hJ hd
            clear hag
            have e0 : a.tmps.getD 26 undef = .agg #[.int .i64 m, .slice A1 cs.length n1, .slice A2 pl.length n2] := hd 2 (by kernel_rfl) _ rfl
            go_wp2_with fail
            refine (HAP.out w5 (h0.below (hb.trans (hJ.mono hzW)))).mono ?_
            rintro e w6 ⟨v5, rfl, own5, hb5⟩
            obtain ⟨A5, c5, rfl, _, _⟩ := (RdS.of_own own5).form
            go_wp2_with fail
            exact ⟨rfl, _, rfl, ⟨A5, c5, rfl, own_mono own5 hJ.size⟩, bl_trans hJ hb5, hb5⟩
        · intro a gh w5 hag hJ hd
          obtain ⟨x0, x1, x2, x3, x4, x5, x6, x7, x8, x9, x10, x11, x12, x13, x14, x15, x16, x17, x18, x19, x20, x21, x22, x23, x24, x25, x26, x27, x28, x29, rfl⟩ := act30ws hag.size hag.defers
          have ag0 : x0 = .agg #[.int .i64 m, .slice A1 cs.length n1, .slice A2 pl.length n2] := hag.kept 0 (by kernel_rfl)
          have ag1 : x1 = .pointer (some ⟨gc, 0, none⟩) := hag.kept 1 (by kernel_rfl)
          have ag2 : x2 = .int .i64 0 := hag.kept 2 (by kernel_rfl)
          clear hag
          subst ag0 ag1 ag2
          have e1 : x25 = .slice A2 pl.length n2 := hd 1 (by kernel_rfl) _ rfl
          obtain ⟨A5, c5, e2, own5⟩ : ∃ A c, x27 = .slice A (upN m).length c ∧ w5.ownsRow W.heap.size 3 1 (.slice A (upN m).length c) (upN m).length ((upN m).flatMap cInt) := hd 3 (by kernel_rfl) _ rfl
          subst e1 e2
          change wpList _ _ _ [_, _, _] _ _
          have hC := l17Can_any _ _ (upN m) pl w5 ((h0.below (hb.trans (hJ.mono hzW))).2) (RdS.of_own own5)
          obtain ⟨cb, hcb⟩ : ∃ cb, canF pl (upN m) = cb := ⟨_, rfl⟩
          rw [hcb] at hC
          have HCB := Lib.hid hcb
          have hb5 := hb.trans (hJ.mono hzW)
          clear hcb hJ hd own5
          go_wp2_with fail
          refine hC.mono ?_
          rintro e w6 ⟨rfl, hb6⟩
          have hb06 := bl_trans hb5 hb6
          cases cb
          · have HW := Lib.hid (whyF_3 (n := m) Hq.out Ho.out (List.eq_nil_of_length_eq_zero HL.out) HCB.out)
            go_wp2_with fail
            go_ret
            exact ⟨by rw [HW.out] <;> rfl, hb06⟩
          · have HW := Lib.hid (whyF_0 (n := m) Hq.out Ho.out (List.eq_nil_of_length_eq_zero HL.out) HCB.out)
            go_wp2_with fail
            go_ret
            exact ⟨by rw [HW.out] <;> rfl, hb06⟩
      · have hgt : (0 : Int) < (wl : Int) := by omega
        have HW := Lib.hid (whyF_2 (n := m) (pl := pl) Hq.out Ho.out (fun e => hw0 (by rw [← HL0.out]; show (woundL ((m : Int)).toNat cs).length = 0; rw [e]; rfl)))
        go_wp2_with fail
        go_ret
        exact ⟨by rw [HW.out] <;> rfl, hb⟩
  · have HW := Lib.hid (whyF_m hq.out)
    go_wp2_with fail
    go_ret
    exact ⟨by rw [HW.out] <;> rfl, bl_trans hbW hb1⟩
end Go.Proofs.Ytjbhlbcjljdjmaa

namespace Go.Proofs.Ytjbhlbcjljdjmaa
open Go.RowKit
def showF (t : Th) (d : Int) : Th × Bool := becF t ⟨t.n, wrap64 (t.m + 30), t.cs, t.pl, (addF t.ds d).1⟩ ((addF t.ds d).2 && (whyF t.n t.cs t.pl == 0))
theorem act36gs0 {a : Act} (h : a.tmps.size = 36) (hd : a.defers = []) : ∃ x0 x1 x2 x3 x4 x5 x6 x7 x8 x9 x10 x11 x12 x13 x14 x15 x16 x17 x18 x19 x20 x21 x22 x23 x24 x25 x26 x27 x28 x29 x30 x31 x32 x33 x34 x35 : Value, a = ⟨#[x0, x1, x2, x3, x4, x5, x6, x7, x8, x9, x10, x11, x12, x13, x14, x15, x16, x17, x18, x19, x20, x21, x22, x23, x24, x25, x26, x27, x28, x29, x30, x31, x32, x33, x34, x35], []⟩ := by
  obtain ⟨⟨l⟩, d⟩ := a
  subst hd
  match l, h with
  | x0 :: x1 :: x2 :: x3 :: x4 :: x5 :: x6 :: x7 :: x8 :: x9 :: x10 :: x11 :: x12 :: x13 :: x14 :: x15 :: x16 :: x17 :: x18 :: x19 :: x20 :: x21 :: x22 :: x23 :: x24 :: x25 :: x26 :: x27 :: x28 :: x29 :: x30 :: x31 :: x32 :: x33 :: x34 :: x35 :: [], _ => exact ⟨x0, x1, x2, x3, x4, x5, x6, x7, x8, x9, x10, x11, x12, x13, x14, x15, x16, x17, x18, x19, x20, x21, x22, x23, x24, x25, x26, x27, x28, x29, x30, x31, x32, x33, x34, x35, rfl⟩
def pgs0 (_w : World) (n m : Int) (A1 A2 A3 B1 B2 C1 : Option Addr) (cs : List RCross) (pl : List RPl) (ds ds' : List Int) (n1 n2 n3 k1 k2 l1 : Nat) (_gc _go : Nat) (_wy : Int) (_wb : Bool) (rn rm : Int) (rcs : List RCross) (rpl : List RPl) (rds : List Int) (rb : Bool) (B0 : Nat) (i : Nat) (v : Value) (_ : Nat → Nat) (w : World) : Prop :=
  match i with
  | 0 => v = .agg #[.int .i64 n, .slice A1 cs.length n1, .slice A2 pl.length n2, .slice A3 ds.length n3, .int .i64 m]
  | 1 => v = .agg #[.int .i64 n, .slice B1 cs.length k1, .slice B2 pl.length k2, .slice C1 ds'.length l1, .int .i64 (wrap64 (m + 30))]
  | 2 => v = .bool false
  | 3 => v = .bool false
  | 4 => True
  | 5 => True
  | 6 => True
  | 7 => True
  | 8 => v = .bool false
  | 9 => ∃ Z1 e1 Z2 e2 Z3 e3 T, v = .tuple #[.agg #[.int .i64 rn, .slice Z1 rcs.length e1, .slice Z2 rpl.length e2, .slice Z3 rds.length e3, .int .i64 rm], .bool rb] ∧ OwTheatre w T (.slice Z1 rcs.length e1) (.slice Z2 rpl.length e2) (.slice Z3 rds.length e3) rcs rpl rds ∧ Fresh B0 w T
  | 10 => ∃ Z1 e1 Z2 e2 Z3 e3 T, v = .agg #[.int .i64 rn, .slice Z1 rcs.length e1, .slice Z2 rpl.length e2, .slice Z3 rds.length e3, .int .i64 rm] ∧ OwTheatre w T (.slice Z1 rcs.length e1) (.slice Z2 rpl.length e2) (.slice Z3 rds.length e3) rcs rpl rds ∧ Fresh B0 w T
  | 11 => v = .bool rb
  | _ => True
theorem act36gs1 {a : Act} (h : a.tmps.size = 36) (hd : a.defers = []) : ∃ x0 x1 x2 x3 x4 x5 x6 x7 x8 x9 x10 x11 x12 x13 x14 x15 x16 x17 x18 x19 x20 x21 x22 x23 x24 x25 x26 x27 x28 x29 x30 x31 x32 x33 x34 x35 : Value, a = ⟨#[x0, x1, x2, x3, x4, x5, x6, x7, x8, x9, x10, x11, x12, x13, x14, x15, x16, x17, x18, x19, x20, x21, x22, x23, x24, x25, x26, x27, x28, x29, x30, x31, x32, x33, x34, x35], []⟩ := by
  obtain ⟨⟨l⟩, d⟩ := a
  subst hd
  match l, h with
  | x0 :: x1 :: x2 :: x3 :: x4 :: x5 :: x6 :: x7 :: x8 :: x9 :: x10 :: x11 :: x12 :: x13 :: x14 :: x15 :: x16 :: x17 :: x18 :: x19 :: x20 :: x21 :: x22 :: x23 :: x24 :: x25 :: x26 :: x27 :: x28 :: x29 :: x30 :: x31 :: x32 :: x33 :: x34 :: x35 :: [], _ => exact ⟨x0, x1, x2, x3, x4, x5, x6, x7, x8, x9, x10, x11, x12, x13, x14, x15, x16, x17, x18, x19, x20, x21, x22, x23, x24, x25, x26, x27, x28, x29, x30, x31, x32, x33, x34, x35, rfl⟩
def pgs1 (_w : World) (n m : Int) (A1 A2 A3 B1 B2 C1 : Option Addr) (cs : List RCross) (pl : List RPl) (ds ds' : List Int) (n1 n2 n3 k1 k2 l1 : Nat) (gc _go : Nat) (wy : Int) (wb : Bool) (rn rm : Int) (rcs : List RCross) (rpl : List RPl) (rds : List Int) (rb : Bool) (B0 : Nat) (i : Nat) (v : Value) (_ : Nat → Nat) (w : World) : Prop :=
  match i with
  | 0 => v = .agg #[.int .i64 n, .slice A1 cs.length n1, .slice A2 pl.length n2, .slice A3 ds.length n3, .int .i64 m]
  | 1 => v = .agg #[.int .i64 n, .slice B1 cs.length k1, .slice B2 pl.length k2, .slice C1 ds'.length l1, .int .i64 (wrap64 (m + 30))]
  | 2 => v = .bool true
  | 3 => v = .bool true
  | 4 => v = .pointer (some ⟨gc, 0, none⟩)
  | 5 => v = .agg #[.int .i64 n, .slice A1 cs.length n1, .slice A2 pl.length n2]
  | 6 => v = .int .i64 wy
  | 7 => v = .bool wb
  | 8 => v = .bool wb
  | 9 => ∃ Z1 e1 Z2 e2 Z3 e3 T, v = .tuple #[.agg #[.int .i64 rn, .slice Z1 rcs.length e1, .slice Z2 rpl.length e2, .slice Z3 rds.length e3, .int .i64 rm], .bool rb] ∧ OwTheatre w T (.slice Z1 rcs.length e1) (.slice Z2 rpl.length e2) (.slice Z3 rds.length e3) rcs rpl rds ∧ Fresh B0 w T
  | 10 => ∃ Z1 e1 Z2 e2 Z3 e3 T, v = .agg #[.int .i64 rn, .slice Z1 rcs.length e1, .slice Z2 rpl.length e2, .slice Z3 rds.length e3, .int .i64 rm] ∧ OwTheatre w T (.slice Z1 rcs.length e1) (.slice Z2 rpl.length e2) (.slice Z3 rds.length e3) rcs rpl rds ∧ Fresh B0 w T
  | 11 => v = .bool rb
  | _ => True
set_option maxHeartbeats 8000000 in
set_option maxRecDepth 100000 in
theorem implGiveShow_any (n m dy : Int) (v1 v2 v3 : Value) (cs : List RCross) (pl : List RPl) (ds : List Int) (w : World) (h : RdTheatre w v1 v2 v3 cs pl ds) (hsz : szTheatre cs pl ds ≤ 1048576) :
    Calls Try.prog 31 #[.agg #[.int .i64 n, v1, v2, v3, .int .i64 m], .int .i64 dy] w (RetTh w.heap.size (showF ⟨n, m, cs, pl, ds⟩ dy) w) := by
  obtain ⟨⟨A1, n1, rfl⟩, ⟨A2, n2, rfl⟩, ⟨A3, n3, rfl⟩⟩ := h.forms
  have hszd : ds.length ≤ 1048576 := by unfold szTheatre at hsz; omega
  unfold showF
  obtain ⟨⟨⟨rn, rm, rcs, rpl, rds⟩, rb⟩, hres⟩ : ∃ res, becF ⟨n, m, cs, pl, ds⟩ ⟨n, wrap64 (m + 30), cs, pl, (addF ds dy).1⟩ ((addF ds dy).2 && (whyF n cs pl == 0)) = res := ⟨_, rfl⟩
  rw [hres]
  change Calls _ _ _ _ (RetT w.heap.size rn rm rb rcs rpl rds w)
  have Hres := Lib.hid hres
  clear hres
  go_enter Try.func31, Try.ntmps31
  go_wp2_with fail
  refine (theatreCopied_any n m _ _ _ cs pl ds _ (h.below (by (repeat' (first | (with_reducible exact Below.refl _ _) | (with_reducible assumption) | (with_reducible refine Below.setCell ?_ (by first | omega | (simp; omega) | (simp; done)) _) | (with_reducible refine Below.alloc ?_ (by first | omega | (simp; omega) | (simp; done)) _) | (with_reducible refine Below.drew ?_) | (with_reducible refine below_drewN ?_ _))))) hsz).mono ?_
  rintro e W1 ⟨x1, x2, x3, S, rfl, ow, f1, q⟩
  obtain ⟨⟨B1, k1, rfl⟩, ⟨B2, k2, rfl⟩, ⟨B3, k3, rfl⟩⟩ := ow.rd.forms
  have Lc : Loc W1 (w.heap.size) [.int .i64 n, .slice A1 cs.length n1, .slice A2 pl.length n2, .slice A3 ds.length n3, .int .i64 m] := by have := ((Loc.new w #[.int .i64 n, .slice A1 cs.length n1, .slice A2 pl.length n2, .slice A3 ds.length n3, .int .i64 m] 58).alloc _).below q; simpa using this
  have Lr : Loc W1 (w.heap.size + 1) [.int .i64 0, .slice none 0 0, .slice none 0 0, .slice none 0 0, .int .i64 0] := by have := (Loc.new (w.alloc (.cells #[.int .i64 n, .slice A1 cs.length n1, .slice A2 pl.length n2, .slice A3 ds.length n3, .int .i64 m] 58)) #[.int .i64 0, .slice none 0 0, .slice none 0 0, .slice none 0 0, .int .i64 0] 58).below q; simpa using this
  have hb : Below w.heap.size w W1 := Below.trans (by (repeat' (first | (with_reducible exact Below.refl _ _) | (with_reducible assumption) | (with_reducible refine Below.setCell ?_ (by first | omega | (simp; omega) | (simp; done)) _) | (with_reducible refine Below.alloc ?_ (by first | omega | (simp; omega) | (simp; done)) _) | (with_reducible refine Below.drew ?_) | (with_reducible refine below_drewN ?_ _)))) (q.mono (by simp <;> omega))
  have hz0 : w.heap.size + 1 + 1 ≤ W1.heap.size := by have := q.size; simp at this; omega
  have hlow : w.heap.size + 1 + 1 ≤ (((w.alloc (.cells #[.int .i64 n, .slice A1 cs.length n1, .slice A2 pl.length n2, .slice A3 ds.length n3, .int .i64 m] 58)).alloc (.cells #[.int .i64 0, .slice none 0 0, .slice none 0 0, .slice none 0 0, .int .i64 0] 58))).heap.size := by first | exact Nat.le_refl _ | (simp; done) | (simp; omega) | omega
  have FK := Lib.hid (fresh_mono f1 hlow (Nat.le_refl _))
  have DK : Hid (∀ x ∈ S, x ∉ [w.heap.size, w.heap.size + 1]) := (fun x hx => by have := (FK.out.2 x hx).1; simp; omega)
  have OK := Lib.hid ow
  clear ow f1 hlow
  clear q
  go_upto_region 2 with (fail)
  replace Lc : Loc (W1.alloc (.cells #[.int .i64 n, .slice B1 cs.length k1, .slice B2 pl.length k2, .slice B3 ds.length k3, .int .i64 m] 58)) (w.heap.size) [.int .i64 n, .slice A1 cs.length n1, .slice A2 pl.length n2, .slice A3 ds.length n3, .int .i64 m] := Lc.alloc _
  replace Lr : Loc (W1.alloc (.cells #[.int .i64 n, .slice B1 cs.length k1, .slice B2 pl.length k2, .slice B3 ds.length k3, .int .i64 m] 58)) (w.heap.size + 1) [.int .i64 0, .slice none 0 0, .slice none 0 0, .slice none 0 0, .int .i64 0] := Lr.alloc _
  obtain ⟨go, hgo⟩ : ∃ g, W1.heap.size = g := ⟨_, rfl⟩
  have Lo : Loc (W1.alloc (.cells #[.int .i64 n, .slice B1 cs.length k1, .slice B2 pl.length k2, .slice B3 ds.length k3, .int .i64 m] 58)) W1.heap.size [.int .i64 n, .slice B1 cs.length k1, .slice B2 pl.length k2, .slice B3 ds.length k3, .int .i64 m] := Loc.new W1 #[.int .i64 n, .slice B1 cs.length k1, .slice B2 pl.length k2, .slice B3 ds.length k3, .int .i64 m] 58
  rw [hgo] at Lo
  have OK' := Lib.hid (OK.out.below (w' := (W1.alloc (.cells #[.int .i64 n, .slice B1 cs.length k1, .slice B2 pl.length k2, .slice B3 ds.length k3, .int .i64 m] 58))) ((Below.refl _ _).alloc (Nat.le_refl _) _))
  clear OK; have OK := OK'; clear OK'
  have DK' : Hid (∀ x ∈ S, x ∉ [w.heap.size, w.heap.size + 1, go]) := (fun x hx => by have := DK.out x hx; have := (FK.out.2 x hx).2; simp at *; omega)
  clear DK; have DK := DK'; clear DK'
  have FK' := Lib.hid (fresh_mono (w' := (W1.alloc (.cells #[.int .i64 n, .slice B1 cs.length k1, .slice B2 pl.length k2, .slice B3 ds.length k3, .int .i64 m] 58))) FK.out (Nat.le_refl _) (by simp))
  clear FK; have FK := FK'; clear FK'
  replace hb : Below w.heap.size w (W1.alloc (.cells #[.int .i64 n, .slice B1 cs.length k1, .slice B2 pl.length k2, .slice B3 ds.length k3, .int .i64 m] 58)) := hb.alloc hb.size _
  have hlto : go < (W1.alloc (.cells #[.int .i64 n, .slice B1 cs.length k1, .slice B2 pl.length k2, .slice B3 ds.length k3, .int .i64 m] 58)).heap.size := by simp; omega
  have hne_c_o : w.heap.size < go := by omega
  have hne_r_o : w.heap.size + 1 < go := by omega
  generalize W1.alloc (.cells #[.int .i64 n, .slice B1 cs.length k1, .slice B2 pl.length k2, .slice B3 ds.length k3, .int .i64 m] 58) = W2 at *
  rw [hgo]
  clear hgo
  obtain ⟨SK1, SK3, eK, oK, pK⟩ := OK.out
  have FKx := FK.out
  have DKx := DK.out
  rw [eK] at FKx DKx
  have OK1 := Lib.hid oK
  have OK3 := Lib.hid pK
  have FK1 := Lib.hid (fresh_left FKx)
  have FK3 := Lib.hid (fresh_right FKx)
  have DK1 : Hid (∀ x ∈ SK1, x ∉ [w.heap.size, w.heap.size + 1, go]) := (fun x hx => DKx x (List.mem_append_left _ hx))
  have DK3 : Hid (∀ x ∈ SK3, x ∉ [w.heap.size, w.heap.size + 1, go]) := (fun x hx => DKx x (List.mem_append_right _ hx))
  have JK : Hid (∀ x ∈ SK1, x ∉ SK3) := (nodup2 FKx.1).2.2.1
  clear OK FK DK FKx DKx oK pK
  have hU1 : ∀ x ∈ SK1, x < W2.heap.size := fun x hx => (FK1.out.2 x hx).2
  have o3 := (Lo 3 _ rfl).1
  go_wp2_with fail
  refine (implAddShow_any _ ds dy _ OK3.out.rd hszd).mono ?_
  rintro e W3 ⟨x4, SX, rfl, ox, fx, q⟩
  clear o3
  obtain ⟨C1, l1, rfl, _, _⟩ := ox.rd.form
  have hzq : W2.heap.size ≤ W3.heap.size := by have := q.size; (try simp at this); omega
  replace Lc := Lc.below q
  replace Lr := Lr.below q
  replace Lo := Lo.below q
  have OK1' := Lib.hid (OK1.out.below q)
  clear OK1; have OK1 := OK1'; clear OK1'
  have FK1' := Lib.hid (fresh_mono (w' := W3) FK1.out (Nat.le_refl _) hzq)
  clear FK1; have FK1 := FK1'; clear FK1'
  have OK3' := Lib.hid (OK3.out.below q)
  clear OK3; have OK3 := OK3'; clear OK3'
  have FK3' := Lib.hid (fresh_mono (w' := W3) FK3.out (Nat.le_refl _) hzq)
  clear FK3; have FK3 := FK3'; clear FK3'
  replace hb : Below w.heap.size w W3 := hb.trans (q.mono hb.size)
  have hlow : W2.heap.size ≤ W2.heap.size := by first | exact Nat.le_refl _ | (simp; done) | (simp; omega) | omega
  have FX := Lib.hid (fresh_mono fx hlow (Nat.le_refl _))
  have DX : Hid (∀ x ∈ SX, x ∉ [w.heap.size, w.heap.size + 1, go]) := (fun x hx => by have := (FX.out.2 x hx).1; simp; omega)
  have OX := Lib.hid ox
  clear ox fx hlow
  clear q
  generalize (addF ds dy).2 = okc at *
  generalize (addF ds dy).1 = ds' at *
  have J1X : Hid (∀ x ∈ SK1, x ∉ SX) := (fun x hx hx' => by have := (FX.out.2 x hx').1; have := hU1 x hx; omega)
  clear hU1
  clear OK3 FK3 DK3
  have o0 := (Lo 0 _ rfl).1
  have of0 := (Lo 0 _ rfl).2
  have o1 := (Lo 1 _ rfl).1
  have of1 := (Lo 1 _ rfl).2
  have o2 := (Lo 2 _ rfl).1
  have of2 := (Lo 2 _ rfl).2
  have o3 := (Lo 3 _ rfl).1
  have of3 := (Lo 3 _ rfl).2
  have o4 := (Lo 4 _ rfl).1
  have of4 := (Lo 4 _ rfl).2
  go_upto_region 4 with (fail)
  clear o0 of0 o1 of1 o2 of2 o3 of3 o4 of4
  replace Lc : Loc (W3.setCell ⟨go, 3, none⟩ (.slice C1 ds'.length l1)) (w.heap.size) [.int .i64 n, .slice A1 cs.length n1, .slice A2 pl.length n2, .slice A3 ds.length n3, .int .i64 m] := Lc.far (g := go) (i := 3) (u := .slice C1 ds'.length l1) (by omega)
  replace Lr : Loc (W3.setCell ⟨go, 3, none⟩ (.slice C1 ds'.length l1)) (w.heap.size + 1) [.int .i64 0, .slice none 0 0, .slice none 0 0, .slice none 0 0, .int .i64 0] := Lr.far (g := go) (i := 3) (u := .slice C1 ds'.length l1) (by omega)
  replace Lo : Loc (W3.setCell ⟨go, 3, none⟩ (.slice C1 ds'.length l1)) (go) [.int .i64 n, .slice B1 cs.length k1, .slice B2 pl.length k2, .slice C1 ds'.length l1, .int .i64 m] := Lo.set (i := 3) (v := .slice B3 ds.length k3) rfl
  have hch : Chg [go] W3 (W3.setCell ⟨go, 3, none⟩ (.slice C1 ds'.length l1)) := chg_set (Chg.refl _ _) (by simp)
  have OK1' := Lib.hid (OK1.out.chg hch (fun x hx hx' => DK1.out x hx (by simp at hx'; subst hx'; simp)))
  clear OK1; have OK1 := OK1'; clear OK1'
  have FK1' := Lib.hid (fresh_mono (w' := (W3.setCell ⟨go, 3, none⟩ (.slice C1 ds'.length l1))) FK1.out (Nat.le_refl _) hch.size)
  clear FK1; have FK1 := FK1'; clear FK1'
  have OX' := Lib.hid (OX.out.chg hch (fun x hx hx' => DX.out x hx (by simp at hx'; subst hx'; simp)))
  clear OX; have OX := OX'; clear OX'
  have FX' := Lib.hid (fresh_mono (w' := (W3.setCell ⟨go, 3, none⟩ (.slice C1 ds'.length l1))) FX.out (Nat.le_refl _) hch.size)
  clear FX; have FX := FX'; clear FX'
  replace hb : Below w.heap.size w (W3.setCell ⟨go, 3, none⟩ (.slice C1 ds'.length l1)) := Below.chg hb hch hb.size (by simp; omega)
  have hzc := hch.size
  clear hch
  generalize W3.setCell ⟨go, 3, none⟩ (.slice C1 ds'.length l1) = W4 at *
  have o4 := (Lo 4 _ rfl).1
  have c4 := (Lc 4 _ rfl).1
  have of4 := (Lo 4 _ rfl).2
  go_upto_region 5 with (fail)
  clear o4 c4 of4
  replace Lc : Loc (W4.setCell ⟨go, 4, none⟩ (.int .i64 (wrap64 (m + 30)))) (w.heap.size) [.int .i64 n, .slice A1 cs.length n1, .slice A2 pl.length n2, .slice A3 ds.length n3, .int .i64 m] := Lc.far (g := go) (i := 4) (u := .int .i64 (wrap64 (m + 30))) (by omega)
  replace Lr : Loc (W4.setCell ⟨go, 4, none⟩ (.int .i64 (wrap64 (m + 30)))) (w.heap.size + 1) [.int .i64 0, .slice none 0 0, .slice none 0 0, .slice none 0 0, .int .i64 0] := Lr.far (g := go) (i := 4) (u := .int .i64 (wrap64 (m + 30))) (by omega)
  replace Lo : Loc (W4.setCell ⟨go, 4, none⟩ (.int .i64 (wrap64 (m + 30)))) (go) [.int .i64 n, .slice B1 cs.length k1, .slice B2 pl.length k2, .slice C1 ds'.length l1, .int .i64 (wrap64 (m + 30))] := Lo.set (i := 4) (v := .int .i64 m) rfl
  have hch : Chg [go] W4 (W4.setCell ⟨go, 4, none⟩ (.int .i64 (wrap64 (m + 30)))) := chg_set (Chg.refl _ _) (by simp)
  have OK1' := Lib.hid (OK1.out.chg hch (fun x hx hx' => DK1.out x hx (by simp at hx'; subst hx'; simp)))
  clear OK1; have OK1 := OK1'; clear OK1'
  have FK1' := Lib.hid (fresh_mono (w' := (W4.setCell ⟨go, 4, none⟩ (.int .i64 (wrap64 (m + 30))))) FK1.out (Nat.le_refl _) hch.size)
  clear FK1; have FK1 := FK1'; clear FK1'
  have OX' := Lib.hid (OX.out.chg hch (fun x hx hx' => DX.out x hx (by simp at hx'; subst hx'; simp)))
  clear OX; have OX := OX'; clear OX'
  have FX' := Lib.hid (fresh_mono (w' := (W4.setCell ⟨go, 4, none⟩ (.int .i64 (wrap64 (m + 30))))) FX.out (Nat.le_refl _) hch.size)
  clear FX; have FX := FX'; clear FX'
  replace hb : Below w.heap.size w (W4.setCell ⟨go, 4, none⟩ (.int .i64 (wrap64 (m + 30)))) := Below.chg hb hch hb.size (by simp; omega)
  have hzc := hch.size
  clear hch
  generalize W4.setCell ⟨go, 4, none⟩ (.int .i64 (wrap64 (m + 30))) = W5 at *
  have FX' := Lib.hid (fresh_mono (B' := w.heap.size + 1 + 1) FX.out (by omega) (Nat.le_refl _))
  clear FX; have FX := FX'; clear FX'
  have OP : OwTheatre W5 (SK1 ++ SX) (.slice B1 cs.length k1) (.slice B2 pl.length k2) (.slice C1 ds'.length l1) cs pl ds' := ⟨_, _, rfl, OK1.out, OX.out⟩
  have FQ := Lib.hid (fresh_join FK1.out FX.out (J1X.out))
  have DQ : Hid (∀ x ∈ SK1 ++ SX, x ∉ [w.heap.size, w.heap.size + 1, go]) := (fun x hx => (List.mem_append.1 hx).elim (DK1.out x) (DX.out x))
  have OQ := Lib.hid (OP)
  clear OK1 FK1 DK1 OX FX DX
  obtain ⟨SQ, hSQ⟩ : ∃ T, SK1 ++ SX = T := ⟨_, rfl⟩
  rw [hSQ] at OQ FQ DQ
  clear hSQ
  clear OP
  have hWN : Hid (∀ w', RdCompany w' (.slice A1 cs.length n1) (.slice A2 pl.length n2) cs pl → Calls Try.prog 22 #[.agg #[.int .i64 n, .slice A1 cs.length n1, .slice A2 pl.length n2]] w' fun e w'' => e = .returned (.int .i64 (whyF n cs pl)) ∧ Below w'.heap.size w' w'') := fun w' hr => implWhyNot_any n _ _ cs pl w' hr
  have hrd : RdTheatre W5 (.slice A1 cs.length n1) (.slice A2 pl.length n2) (.slice A3 ds.length n3) cs pl ds := h.below hb
  have HRD := Lib.hid hrd
  clear hrd
  generalize whyF n cs pl = wy at *
  obtain ⟨wb, hwb⟩ : ∃ wb, (wy == 0) = wb := ⟨_, rfl⟩
  rw [hwb] at Hres
  have HWB := Lib.hid hwb
  clear hwb
  cases okc
  · skip
    refine region_guardedL (n := 36) 12 (by kernel_rfl) rfl (by kernel_rfl) [3] (by kernel_rfl) (fun j => if j = 3 then false else false) (fun w' => Below W5.heap.size W5 w') (fun _ => 0) (pgs0 w n m A1 A2 A3 B1 B2 C1 cs pl ds ds' n1 n2 n3 k1 k2 l1 (w.heap.size) (go) wy wb rn rm rcs rpl rds rb (w.heap.size + 1 + 1)) ⟨fun _ _ _ h => h, trivial⟩ (Below.refl _ _).drew ?_ ?_ ?_
    · intro i v gh gh' w1 w2 hp hJ hb' hg
      match i, hp with
      | 0, hp => exact hp
      | 1, hp => exact hp
      | 2, hp => exact hp
      | 3, hp => exact hp
      | 4, hp => exact hp
      | 5, hp => exact hp
      | 6, hp => exact hp
      | 7, hp => exact hp
      | 8, hp => exact hp
      | 9, ⟨Z1, e1, Z2, e2, Z3, e3, T, hv, ho, hf⟩ => exact ⟨Z1, e1, Z2, e2, Z3, e3, T, hv, ho.below hb', fresh_mono hf (Nat.le_refl _) hb'.size⟩
      | 10, ⟨Z1, e1, Z2, e2, Z3, e3, T, hv, ho, hf⟩ => exact ⟨Z1, e1, Z2, e2, Z3, e3, T, hv, ho.below hb', fresh_mono hf (Nat.le_refl _) hb'.size⟩
      | 11, hp => exact hp
      | _ + 12, _ => trivial
    · refine ⟨?_, ?_, ?_, ?_, ?_, ?_, ?_, ?_, ?_, ?_, ?_, ?_, trivial⟩
      · intro a gh w5 hag hJ hd
        dsimp only [bareO]
        have ag2 : a.tmps.getD 2 undef = .pointer (some ⟨w.heap.size, 0, none⟩) := hag.kept 2 (by kernel_rfl)
        clear hag
        have c0 := ((Lc.below hJ) 0 _ rfl).1
        have c1 := ((Lc.below hJ) 1 _ rfl).1
        have c2 := ((Lc.below hJ) 2 _ rfl).1
        have c3 := ((Lc.below hJ) 3 _ rfl).1
        have c4 := ((Lc.below hJ) 4 _ rfl).1
        go_wp2_with fail
        exact ⟨rfl, _, rfl, rfl, hJ, Below.refl _ _⟩
      · intro a gh w5 hag hJ hd
        dsimp only [bareO]
        have ag6 : a.tmps.getD 6 undef = .pointer (some ⟨go, 0, none⟩) := hag.kept 6 (by kernel_rfl)
        clear hag
        have o0 := ((Lo.below hJ) 0 _ rfl).1
        have o1 := ((Lo.below hJ) 1 _ rfl).1
        have o2 := ((Lo.below hJ) 2 _ rfl).1
        have o3 := ((Lo.below hJ) 3 _ rfl).1
        have o4 := ((Lo.below hJ) 4 _ rfl).1
        go_wp2_with fail
        exact ⟨rfl, _, rfl, rfl, hJ, Below.refl _ _⟩
      · intro a gh w5 hag hJ hd
        dsimp only [bareO]
        have ag8 : a.tmps.getD 8 undef = .bool false := hag.kept 8 (by kernel_rfl)
        clear hag
        go_wp2_with fail
        exact ⟨rfl, _, rfl, rfl, hJ, Below.refl _ _⟩
      · intro a gh w5 hag hJ hd
        dsimp only [bareO]
        clear hag
        have e0 : a.tmps.getD 26 undef = .bool false := hd 2 (by kernel_rfl) _ rfl
        go_wp2_with fail
        exact ⟨rfl, _, rfl, rfl, hJ, Below.refl _ _⟩
      · intro gh w5; trivial
      · intro gh w5; trivial
      · intro gh w5; trivial
      · intro gh w5; trivial
      · intro a gh w5 hag hJ hd
        dsimp only [bareO]
        clear hag
        have e0 : a.tmps.getD 27 undef = .bool false := hd 3 (by kernel_rfl) _ rfl
        go_wp2_with fail
        exact ⟨rfl, _, rfl, rfl, hJ, Below.refl _ _⟩
      · intro a gh w5 hag hJ hd
        dsimp only [bareO]
        clear hag
        have e0 : a.tmps.getD 24 undef = .agg #[.int .i64 n, .slice A1 cs.length n1, .slice A2 pl.length n2, .slice A3 ds.length n3, .int .i64 m] := hd 0 (by kernel_rfl) _ rfl
        have e1 : a.tmps.getD 25 undef = .agg #[.int .i64 n, .slice B1 cs.length k1, .slice B2 pl.length k2, .slice C1 ds'.length l1, .int .i64 (wrap64 (m + 30))] := hd 1 (by kernel_rfl) _ rfl
        have e2 : a.tmps.getD 32 undef = .bool false := hd 8 (by kernel_rfl) _ rfl
        go_wp2_with fail
        refine (becomes_eq (B := w.heap.size + 1 + 1) (S := SQ) Hres.out (HRD.out.below hJ) hsz (OQ.out.below hJ) (fresh_mono FQ.out (Nat.le_refl _) hJ.size) (by have := hb.size; have := hJ.size; omega)).mono ?_
        rintro e w6 ⟨z1, z2, z3, T, rfl, owr, fr, hb6⟩
        obtain ⟨⟨Z1, e1, rfl⟩, ⟨Z2, e2, rfl⟩, ⟨Z3, e3, rfl⟩⟩ := owr.rd.forms
        go_wp2_with fail
        exact ⟨rfl, _, rfl, ⟨_, _, _, _, _, _, _, rfl, owr, fr⟩, bl_trans hJ hb6, hb6⟩
      · intro a gh w5 hag hJ hd
        dsimp only [bareO]
        clear hag
        obtain ⟨Z1, e1, Z2, e2, Z3, e3, T, e0, ho, hf⟩ : ∃ Z1 e1 Z2 e2 Z3 e3 T, a.tmps.getD 33 undef = .tuple #[.agg #[.int .i64 rn, .slice Z1 rcs.length e1, .slice Z2 rpl.length e2, .slice Z3 rds.length e3, .int .i64 rm], .bool rb] ∧ OwTheatre w5 T (.slice Z1 rcs.length e1) (.slice Z2 rpl.length e2) (.slice Z3 rds.length e3) rcs rpl rds ∧ Fresh (w.heap.size + 1 + 1) w5 T := hd 9 (by kernel_rfl) _ rfl
        go_wp2_with fail
        exact ⟨rfl, _, rfl, ⟨_, _, _, _, _, _, _, rfl, ho, hf⟩, hJ, Below.refl _ _⟩
      · intro a gh w5 hag hJ hd
        dsimp only [bareO]
        clear hag
        obtain ⟨Z1, e1, Z2, e2, Z3, e3, T, e0, ho, hf⟩ : ∃ Z1 e1 Z2 e2 Z3 e3 T, a.tmps.getD 33 undef = .tuple #[.agg #[.int .i64 rn, .slice Z1 rcs.length e1, .slice Z2 rpl.length e2, .slice Z3 rds.length e3, .int .i64 rm], .bool rb] ∧ OwTheatre w5 T (.slice Z1 rcs.length e1) (.slice Z2 rpl.length e2) (.slice Z3 rds.length e3) rcs rpl rds ∧ Fresh (w.heap.size + 1 + 1) w5 T := hd 9 (by kernel_rfl) _ rfl
        go_wp2_with fail
        exact ⟨rfl, _, rfl, rfl, hJ, Below.refl _ _⟩
    · intro a gh w5 hag hJ hd
      obtain ⟨x0, x1, x2, x3, x4, x5, x6, x7, x8, x9, x10, x11, x12, x13, x14, x15, x16, x17, x18, x19, x20, x21, x22, x23, x24, x25, x26, x27, x28, x29, x30, x31, x32, x33, x34, x35, rfl⟩ := act36gs0 hag.size hag.defers
      have ag2 : x2 = .pointer (some ⟨w.heap.size, 0, none⟩) := hag.kept 2 (by kernel_rfl)
      have ag4 : x4 = .pointer (some ⟨w.heap.size + 1, 0, none⟩) := hag.kept 4 (by kernel_rfl)
      have ag6 : x6 = .pointer (some ⟨go, 0, none⟩) := hag.kept 6 (by kernel_rfl)
      have ag8 : x8 = .bool false := hag.kept 8 (by kernel_rfl)
      clear hag
      subst ag2 ag4 ag6 ag8
      obtain ⟨Z1, e1, Z2, e2, Z3, e3, T, e0, ho, hf⟩ : ∃ Z1 e1 Z2 e2 Z3 e3 T, x34 = .agg #[.int .i64 rn, .slice Z1 rcs.length e1, .slice Z2 rpl.length e2, .slice Z3 rds.length e3, .int .i64 rm] ∧ OwTheatre w5 T (.slice Z1 rcs.length e1) (.slice Z2 rpl.length e2) (.slice Z3 rds.length e3) rcs rpl rds ∧ Fresh (w.heap.size + 1 + 1) w5 T := hd 10 (by kernel_rfl) _ rfl
      have e35 : x35 = .bool rb := hd 11 (by kernel_rfl) _ rfl
      subst e0 e35
      clear hd
      change wpList _ _ _ [_, _] _ _
      have hzq : W5.heap.size ≤ w5.heap.size := by have := hJ.size; (try simp at this); omega
      replace Lc := Lc.below hJ
      replace Lr := Lr.below hJ
      replace Lo := Lo.below hJ
      have OQ' := Lib.hid (OQ.out.below hJ)
      clear OQ; have OQ := OQ'; clear OQ'
      have FQ' := Lib.hid (fresh_mono (w' := w5) FQ.out (Nat.le_refl _) hzq)
      clear FQ; have FQ := FQ'; clear FQ'
      replace hb : Below w.heap.size w w5 := hb.trans (hJ.mono hb.size)
      clear hJ
      have FR := Lib.hid hf
      have OR := Lib.hid ho
      clear ho hf Hres
      have r0 := (Lr 0 _ rfl).1
      have rf0 := (Lr 0 _ rfl).2
      have r1 := (Lr 1 _ rfl).1
      have rf1 := (Lr 1 _ rfl).2
      have r2 := (Lr 2 _ rfl).1
      have rf2 := (Lr 2 _ rfl).2
      have r3 := (Lr 3 _ rfl).1
      have rf3 := (Lr 3 _ rfl).2
      have r4 := (Lr 4 _ rfl).1
      have rf4 := (Lr 4 _ rfl).2
      go_wp2_with fail
      refine bodyPost_ret (v := .tuple #[.agg #[.int .i64 rn, .slice Z1 rcs.length e1, .slice Z2 rpl.length e2, .slice Z3 rds.length e3, .int .i64 rm], .bool rb]) (by simp [results, Try.results31, go_sem, *]) rfl ⟨_, _, _, T, rfl, ?_, ?_, ?_⟩
      · exact OR.out.chg (T := [w.heap.size + 1]) (by repeat' (first | (with_reducible exact Chg.refl _ _) | (with_reducible refine chg_set ?_ (by simp)))) (fun x hx hx' => by have := (FR.out.2 x hx).1; simp at hx'; omega)
      · exact fresh_mono FR.out (by omega) (by simp)
      · exact Below.chg hb (S := [w.heap.size + 1]) (by repeat' (first | (with_reducible exact Chg.refl _ _) | (with_reducible refine chg_set ?_ (by simp)))) hb.size (fun x hx => by simp at hx; omega)
  · skip
    refine region_guardedL (n := 36) 12 (by kernel_rfl) rfl (by kernel_rfl) [3] (by kernel_rfl) (fun j => if j = 3 then true else false) (fun w' => Below W5.heap.size W5 w') (fun _ => 0) (pgs1 w n m A1 A2 A3 B1 B2 C1 cs pl ds ds' n1 n2 n3 k1 k2 l1 (w.heap.size) (go) wy wb rn rm rcs rpl rds rb (w.heap.size + 1 + 1)) ⟨fun _ _ _ h => h, trivial⟩ (Below.refl _ _).drew ?_ ?_ ?_
    · intro i v gh gh' w1 w2 hp hJ hb' hg
      match i, hp with
      | 0, hp => exact hp
      | 1, hp => exact hp
      | 2, hp => exact hp
      | 3, hp => exact hp
      | 4, hp => exact hp
      | 5, hp => exact hp
      | 6, hp => exact hp
      | 7, hp => exact hp
      | 8, hp => exact hp
      | 9, ⟨Z1, e1, Z2, e2, Z3, e3, T, hv, ho, hf⟩ => exact ⟨Z1, e1, Z2, e2, Z3, e3, T, hv, ho.below hb', fresh_mono hf (Nat.le_refl _) hb'.size⟩
      | 10, ⟨Z1, e1, Z2, e2, Z3, e3, T, hv, ho, hf⟩ => exact ⟨Z1, e1, Z2, e2, Z3, e3, T, hv, ho.below hb', fresh_mono hf (Nat.le_refl _) hb'.size⟩
      | 11, hp => exact hp
      | _ + 12, _ => trivial
    · refine ⟨?_, ?_, ?_, ?_, ?_, ?_, ?_, ?_, ?_, ?_, ?_, ?_, trivial⟩
      · intro a gh w5 hag hJ hd
        dsimp only [bareO]
        have ag2 : a.tmps.getD 2 undef = .pointer (some ⟨w.heap.size, 0, none⟩) := hag.kept 2 (by kernel_rfl)
        clear hag
        have c0 := ((Lc.below hJ) 0 _ rfl).1
        have c1 := ((Lc.below hJ) 1 _ rfl).1
        have c2 := ((Lc.below hJ) 2 _ rfl).1
        have c3 := ((Lc.below hJ) 3 _ rfl).1
        have c4 := ((Lc.below hJ) 4 _ rfl).1
        go_wp2_with fail
        exact ⟨rfl, _, rfl, rfl, hJ, Below.refl _ _⟩
      · intro a gh w5 hag hJ hd
        dsimp only [bareO]
        have ag6 : a.tmps.getD 6 undef = .pointer (some ⟨go, 0, none⟩) := hag.kept 6 (by kernel_rfl)
        clear hag
        have o0 := ((Lo.below hJ) 0 _ rfl).1
        have o1 := ((Lo.below hJ) 1 _ rfl).1
        have o2 := ((Lo.below hJ) 2 _ rfl).1
        have o3 := ((Lo.below hJ) 3 _ rfl).1
        have o4 := ((Lo.below hJ) 4 _ rfl).1
        go_wp2_with fail
        exact ⟨rfl, _, rfl, rfl, hJ, Below.refl _ _⟩
      · intro a gh w5 hag hJ hd
        dsimp only [bareO]
        have ag8 : a.tmps.getD 8 undef = .bool true := hag.kept 8 (by kernel_rfl)
        clear hag
        go_wp2_with fail
        exact ⟨rfl, _, rfl, rfl, hJ, Below.refl _ _⟩
      · intro a gh w5 hag hJ hd
        dsimp only [bareO]
        clear hag
        have e0 : a.tmps.getD 26 undef = .bool true := hd 2 (by kernel_rfl) _ rfl
        go_wp2_with fail
        exact ⟨rfl, _, rfl, rfl, hJ, Below.refl _ _⟩
      · intro a gh w5 hag hJ hd
        dsimp only [bareO]
        have ag2 : a.tmps.getD 2 undef = .pointer (some ⟨w.heap.size, 0, none⟩) := hag.kept 2 (by kernel_rfl)
        clear hag
        go_wp2_with fail
        exact ⟨rfl, _, rfl, rfl, hJ, Below.refl _ _⟩
      · intro a gh w5 hag hJ hd
        dsimp only [bareO]
        clear hag
        have e0 : a.tmps.getD 28 undef = .pointer (some ⟨w.heap.size, 0, none⟩) := hd 4 (by kernel_rfl) _ rfl
        have c0 := ((Lc.below hJ) 0 _ rfl).1
        have c1 := ((Lc.below hJ) 1 _ rfl).1
        have c2 := ((Lc.below hJ) 2 _ rfl).1
        have c3 := ((Lc.below hJ) 3 _ rfl).1
        have c4 := ((Lc.below hJ) 4 _ rfl).1
        go_wp2_with fail
        exact ⟨rfl, _, rfl, rfl, hJ, Below.refl _ _⟩
      · intro a gh w5 hag hJ hd
        dsimp only [bareO]
        clear hag
        have e0 : a.tmps.getD 29 undef = .agg #[.int .i64 n, .slice A1 cs.length n1, .slice A2 pl.length n2] := hd 5 (by kernel_rfl) _ rfl
        go_wp2_with fail
        refine (hWN.out w5 ((HRD.out.below hJ).1)).mono ?_
        rintro e w6 ⟨rfl, hb6⟩
        go_wp2_with fail
        exact ⟨rfl, _, rfl, rfl, bl_trans hJ hb6, hb6⟩
      · intro a gh w5 hag hJ hd
        dsimp only [bareO]
        clear hag
        have e0 : a.tmps.getD 30 undef = .int .i64 wy := hd 6 (by kernel_rfl) _ rfl
        go_wp2_with fail
        exact ⟨rfl, _, rfl, by first | exact congrArg Value.bool HWB.out | (rw [HWB.out]), hJ, Below.refl _ _⟩
      · intro a gh w5 hag hJ hd
        dsimp only [bareO]
        clear hag
        have e0 : a.tmps.getD 27 undef = .bool true := hd 3 (by kernel_rfl) _ rfl
        have e1 : a.tmps.getD 31 undef = .bool wb := hd 7 (by kernel_rfl) _ rfl
        go_wp2_with fail
        exact ⟨rfl, _, rfl, rfl, hJ, Below.refl _ _⟩
      · intro a gh w5 hag hJ hd
        dsimp only [bareO]
        clear hag
        have e0 : a.tmps.getD 24 undef = .agg #[.int .i64 n, .slice A1 cs.length n1, .slice A2 pl.length n2, .slice A3 ds.length n3, .int .i64 m] := hd 0 (by kernel_rfl) _ rfl
        have e1 : a.tmps.getD 25 undef = .agg #[.int .i64 n, .slice B1 cs.length k1, .slice B2 pl.length k2, .slice C1 ds'.length l1, .int .i64 (wrap64 (m + 30))] := hd 1 (by kernel_rfl) _ rfl
        have e2 : a.tmps.getD 32 undef = .bool wb := hd 8 (by kernel_rfl) _ rfl
        go_wp2_with fail
        refine (becomes_eq (B := w.heap.size + 1 + 1) (S := SQ) Hres.out (HRD.out.below hJ) hsz (OQ.out.below hJ) (fresh_mono FQ.out (Nat.le_refl _) hJ.size) (by have := hb.size; have := hJ.size; omega)).mono ?_
        rintro e w6 ⟨z1, z2, z3, T, rfl, owr, fr, hb6⟩
        obtain ⟨⟨Z1, e1, rfl⟩, ⟨Z2, e2, rfl⟩, ⟨Z3, e3, rfl⟩⟩ := owr.rd.forms
        go_wp2_with fail
        exact ⟨rfl, _, rfl, ⟨_, _, _, _, _, _, _, rfl, owr, fr⟩, bl_trans hJ hb6, hb6⟩
      · intro a gh w5 hag hJ hd
        dsimp only [bareO]
        clear hag
        obtain ⟨Z1, e1, Z2, e2, Z3, e3, T, e0, ho, hf⟩ : ∃ Z1 e1 Z2 e2 Z3 e3 T, a.tmps.getD 33 undef = .tuple #[.agg #[.int .i64 rn, .slice Z1 rcs.length e1, .slice Z2 rpl.length e2, .slice Z3 rds.length e3, .int .i64 rm], .bool rb] ∧ OwTheatre w5 T (.slice Z1 rcs.length e1) (.slice Z2 rpl.length e2) (.slice Z3 rds.length e3) rcs rpl rds ∧ Fresh (w.heap.size + 1 + 1) w5 T := hd 9 (by kernel_rfl) _ rfl
        go_wp2_with fail
        exact ⟨rfl, _, rfl, ⟨_, _, _, _, _, _, _, rfl, ho, hf⟩, hJ, Below.refl _ _⟩
      · intro a gh w5 hag hJ hd
        dsimp only [bareO]
        clear hag
        obtain ⟨Z1, e1, Z2, e2, Z3, e3, T, e0, ho, hf⟩ : ∃ Z1 e1 Z2 e2 Z3 e3 T, a.tmps.getD 33 undef = .tuple #[.agg #[.int .i64 rn, .slice Z1 rcs.length e1, .slice Z2 rpl.length e2, .slice Z3 rds.length e3, .int .i64 rm], .bool rb] ∧ OwTheatre w5 T (.slice Z1 rcs.length e1) (.slice Z2 rpl.length e2) (.slice Z3 rds.length e3) rcs rpl rds ∧ Fresh (w.heap.size + 1 + 1) w5 T := hd 9 (by kernel_rfl) _ rfl
        go_wp2_with fail
        exact ⟨rfl, _, rfl, rfl, hJ, Below.refl _ _⟩
    · intro a gh w5 hag hJ hd
      obtain ⟨x0, x1, x2, x3, x4, x5, x6, x7, x8, x9, x10, x11, x12, x13, x14, x15, x16, x17, x18, x19, x20, x21, x22, x23, x24, x25, x26, x27, x28, x29, x30, x31, x32, x33, x34, x35, rfl⟩ := act36gs1 hag.size hag.defers
      have ag2 : x2 = .pointer (some ⟨w.heap.size, 0, none⟩) := hag.kept 2 (by kernel_rfl)
      have ag4 : x4 = .pointer (some ⟨w.heap.size + 1, 0, none⟩) := hag.kept 4 (by kernel_rfl)
      have ag6 : x6 = .pointer (some ⟨go, 0, none⟩) := hag.kept 6 (by kernel_rfl)
      have ag8 : x8 = .bool true := hag.kept 8 (by kernel_rfl)
      clear hag
      subst ag2 ag4 ag6 ag8
      obtain ⟨Z1, e1, Z2, e2, Z3, e3, T, e0, ho, hf⟩ : ∃ Z1 e1 Z2 e2 Z3 e3 T, x34 = .agg #[.int .i64 rn, .slice Z1 rcs.length e1, .slice Z2 rpl.length e2, .slice Z3 rds.length e3, .int .i64 rm] ∧ OwTheatre w5 T (.slice Z1 rcs.length e1) (.slice Z2 rpl.length e2) (.slice Z3 rds.length e3) rcs rpl rds ∧ Fresh (w.heap.size + 1 + 1) w5 T := hd 10 (by kernel_rfl) _ rfl
      have e35 : x35 = .bool rb := hd 11 (by kernel_rfl) _ rfl
      subst e0 e35
      clear hd
      change wpList _ _ _ [_, _] _ _
      have hzq : W5.heap.size ≤ w5.heap.size := by have := hJ.size; (try simp at this); omega
      replace Lc := Lc.below hJ
      replace Lr := Lr.below hJ
      replace Lo := Lo.below hJ
      have OQ' := Lib.hid (OQ.out.below hJ)
      clear OQ; have OQ := OQ'; clear OQ'
      have FQ' := Lib.hid (fresh_mono (w' := w5) FQ.out (Nat.le_refl _) hzq)
      clear FQ; have FQ := FQ'; clear FQ'
      replace hb : Below w.heap.size w w5 := hb.trans (hJ.mono hb.size)
      clear hJ
      have FR := Lib.hid hf
      have OR := Lib.hid ho
      clear ho hf Hres
      have r0 := (Lr 0 _ rfl).1
      have rf0 := (Lr 0 _ rfl).2
      have r1 := (Lr 1 _ rfl).1
      have rf1 := (Lr 1 _ rfl).2
      have r2 := (Lr 2 _ rfl).1
      have rf2 := (Lr 2 _ rfl).2
      have r3 := (Lr 3 _ rfl).1
      have rf3 := (Lr 3 _ rfl).2
      have r4 := (Lr 4 _ rfl).1
      have rf4 := (Lr 4 _ rfl).2
      go_wp2_with fail
      refine bodyPost_ret (v := .tuple #[.agg #[.int .i64 rn, .slice Z1 rcs.length e1, .slice Z2 rpl.length e2, .slice Z3 rds.length e3, .int .i64 rm], .bool rb]) (by simp [results, Try.results31, go_sem, *]) rfl ⟨_, _, _, T, rfl, ?_, ?_, ?_⟩
      · exact OR.out.chg (T := [w.heap.size + 1]) (by repeat' (first | (with_reducible exact Chg.refl _ _) | (with_reducible refine chg_set ?_ (by simp)))) (fun x hx hx' => by have := (FR.out.2 x hx).1; simp at hx'; omega)
      · exact fresh_mono FR.out (by omega) (by simp)
      · exact Below.chg hb (S := [w.heap.size + 1]) (by repeat' (first | (with_reducible exact Chg.refl _ _) | (with_reducible refine chg_set ?_ (by simp)))) hb.size (fun x hx => by simp at hx; omega)
set_option maxHeartbeats 8000000 in
set_option maxRecDepth 100000 in
theorem specGiveShow_any (n m dy : Int) (v1 v2 v3 : Value) (cs : List RCross) (pl : List RPl) (ds : List Int) (w : World) (h : RdTheatre w v1 v2 v3 cs pl ds) (hsz : szTheatre cs pl ds ≤ 1048576) :
    Calls Try.prog 29 #[.agg #[.int .i64 n, v1, v2, v3, .int .i64 m], .int .i64 dy] w (RetTh w.heap.size (showF ⟨n, m, cs, pl, ds⟩ dy) w) := by
  obtain ⟨⟨A1, n1, rfl⟩, ⟨A2, n2, rfl⟩, ⟨A3, n3, rfl⟩⟩ := h.forms
  have hszd : ds.length ≤ 1048576 := by unfold szTheatre at hsz; omega
  unfold showF
  go_enter Try.func29, Try.ntmps29
  go_wp2_with fail
  refine (l38Copy_any n m _ _ _ cs pl ds _ (h.below (by (repeat' (first | (with_reducible exact Below.refl _ _) | (with_reducible assumption) | (with_reducible refine Below.setCell ?_ (by first | omega | (simp; omega) | (simp; done)) _) | (with_reducible refine Below.alloc ?_ (by first | omega | (simp; omega) | (simp; done)) _) | (with_reducible refine Below.drew ?_) | (with_reducible refine below_drewN ?_ _))))) hsz).mono ?_
  rintro e W1 ⟨x1, x2, x3, S, rfl, ow, f1, q⟩
  obtain ⟨⟨B1, k1, rfl⟩, ⟨B2, k2, rfl⟩, ⟨B3, k3, rfl⟩⟩ := ow.rd.forms
  have Lc : Loc W1 (w.heap.size) [.int .i64 n, .slice A1 cs.length n1, .slice A2 pl.length n2, .slice A3 ds.length n3, .int .i64 m] := by have := ((Loc.new w #[.int .i64 n, .slice A1 cs.length n1, .slice A2 pl.length n2, .slice A3 ds.length n3, .int .i64 m] 58).alloc _).below q; simpa using this
  have Lr : Loc W1 (w.heap.size + 1) [.int .i64 0, .slice none 0 0, .slice none 0 0, .slice none 0 0, .int .i64 0] := by have := (Loc.new (w.alloc (.cells #[.int .i64 n, .slice A1 cs.length n1, .slice A2 pl.length n2, .slice A3 ds.length n3, .int .i64 m] 58)) #[.int .i64 0, .slice none 0 0, .slice none 0 0, .slice none 0 0, .int .i64 0] 58).below q; simpa using this
  have hb : Below w.heap.size w W1 := Below.trans (by (repeat' (first | (with_reducible exact Below.refl _ _) | (with_reducible assumption) | (with_reducible refine Below.setCell ?_ (by first | omega | (simp; omega) | (simp; done)) _) | (with_reducible refine Below.alloc ?_ (by first | omega | (simp; omega) | (simp; done)) _) | (with_reducible refine Below.drew ?_) | (with_reducible refine below_drewN ?_ _)))) (q.mono (by simp <;> omega))
  have hz0 : w.heap.size + 1 + 1 ≤ W1.heap.size := by have := q.size; simp at this; omega
  have hlow : w.heap.size + 1 + 1 ≤ (((w.alloc (.cells #[.int .i64 n, .slice A1 cs.length n1, .slice A2 pl.length n2, .slice A3 ds.length n3, .int .i64 m] 58)).alloc (.cells #[.int .i64 0, .slice none 0 0, .slice none 0 0, .slice none 0 0, .int .i64 0] 58))).heap.size := by first | exact Nat.le_refl _ | (simp; done) | (simp; omega) | omega
  have FK := Lib.hid (fresh_mono f1 hlow (Nat.le_refl _))
  have DK : Hid (∀ x ∈ S, x ∉ [w.heap.size, w.heap.size + 1]) := (fun x hx => by have := (FK.out.2 x hx).1; simp; omega)
  have OK := Lib.hid ow
  clear ow f1 hlow
  clear q
  go_upto_region 2 with (fail)
  replace Lc : Loc (W1.alloc (.cells #[.int .i64 n, .slice B1 cs.length k1, .slice B2 pl.length k2, .slice B3 ds.length k3, .int .i64 m] 58)) (w.heap.size) [.int .i64 n, .slice A1 cs.length n1, .slice A2 pl.length n2, .slice A3 ds.length n3, .int .i64 m] := Lc.alloc _
  replace Lr : Loc (W1.alloc (.cells #[.int .i64 n, .slice B1 cs.length k1, .slice B2 pl.length k2, .slice B3 ds.length k3, .int .i64 m] 58)) (w.heap.size + 1) [.int .i64 0, .slice none 0 0, .slice none 0 0, .slice none 0 0, .int .i64 0] := Lr.alloc _
  obtain ⟨go, hgo⟩ : ∃ g, W1.heap.size = g := ⟨_, rfl⟩
  have Lo : Loc (W1.alloc (.cells #[.int .i64 n, .slice B1 cs.length k1, .slice B2 pl.length k2, .slice B3 ds.length k3, .int .i64 m] 58)) W1.heap.size [.int .i64 n, .slice B1 cs.length k1, .slice B2 pl.length k2, .slice B3 ds.length k3, .int .i64 m] := Loc.new W1 #[.int .i64 n, .slice B1 cs.length k1, .slice B2 pl.length k2, .slice B3 ds.length k3, .int .i64 m] 58
  rw [hgo] at Lo
  have OK' := Lib.hid (OK.out.below (w' := (W1.alloc (.cells #[.int .i64 n, .slice B1 cs.length k1, .slice B2 pl.length k2, .slice B3 ds.length k3, .int .i64 m] 58))) ((Below.refl _ _).alloc (Nat.le_refl _) _))
  clear OK; have OK := OK'; clear OK'
  have DK' : Hid (∀ x ∈ S, x ∉ [w.heap.size, w.heap.size + 1, go]) := (fun x hx => by have := DK.out x hx; have := (FK.out.2 x hx).2; simp at *; omega)
  clear DK; have DK := DK'; clear DK'
  have FK' := Lib.hid (fresh_mono (w' := (W1.alloc (.cells #[.int .i64 n, .slice B1 cs.length k1, .slice B2 pl.length k2, .slice B3 ds.length k3, .int .i64 m] 58))) FK.out (Nat.le_refl _) (by simp))
  clear FK; have FK := FK'; clear FK'
  replace hb : Below w.heap.size w (W1.alloc (.cells #[.int .i64 n, .slice B1 cs.length k1, .slice B2 pl.length k2, .slice B3 ds.length k3, .int .i64 m] 58)) := hb.alloc hb.size _
  have hlto : go < (W1.alloc (.cells #[.int .i64 n, .slice B1 cs.length k1, .slice B2 pl.length k2, .slice B3 ds.length k3, .int .i64 m] 58)).heap.size := by simp; omega
  have hne_c_o : w.heap.size < go := by omega
  have hne_r_o : w.heap.size + 1 < go := by omega
  generalize W1.alloc (.cells #[.int .i64 n, .slice B1 cs.length k1, .slice B2 pl.length k2, .slice B3 ds.length k3, .int .i64 m] 58) = W2 at *
  rw [hgo]
  clear hgo
  have c0 := (Lc 0 _ rfl).1
  have c1 := (Lc 1 _ rfl).1
  have c2 := (Lc 2 _ rfl).1
  have c3 := (Lc 3 _ rfl).1
  have c4 := (Lc 4 _ rfl).1
  go_wp2_with fail
  refine twoB (specTheatreOk_any n m _ _ _ cs pl ds _ (h.below hb)) (fun W3 hq q => ?_) (fun W3 hq q => ?_)
  · skip
    clear c0 c1 c2 c3 c4
    have hzq : W2.heap.size ≤ W3.heap.size := by have := q.size; (try simp at this); omega
    replace Lc := Lc.below q
    replace Lr := Lr.below q
    replace Lo := Lo.below q
    have OK' := Lib.hid (OK.out.below q)
    clear OK; have OK := OK'; clear OK'
    have FK' := Lib.hid (fresh_mono (w' := W3) FK.out (Nat.le_refl _) hzq)
    clear FK; have FK := FK'; clear FK'
    replace hb : Below w.heap.size w W3 := hb.trans (q.mono hb.size)
    clear q
    have c0 := (Lc 0 _ rfl).1
    have c1 := (Lc 1 _ rfl).1
    have c2 := (Lc 2 _ rfl).1
    have c3 := (Lc 3 _ rfl).1
    have c4 := (Lc 4 _ rfl).1
    go_wp2_with fail
    refine (specWhyNot_any n _ _ cs pl _ ((h.below hb).1)).mono ?_
    rintro e W4 ⟨rfl, q⟩
    clear c0 c1 c2 c3 c4
    have hzq : W3.heap.size ≤ W4.heap.size := by have := q.size; (try simp at this); omega
    replace Lc := Lc.below q
    replace Lr := Lr.below q
    replace Lo := Lo.below q
    have OK' := Lib.hid (OK.out.below q)
    clear OK; have OK := OK'; clear OK'
    have FK' := Lib.hid (fresh_mono (w' := W4) FK.out (Nat.le_refl _) hzq)
    clear FK; have FK := FK'; clear FK'
    replace hb : Below w.heap.size w W4 := hb.trans (q.mono hb.size)
    clear q
    generalize whyF n cs pl = wy at *
    by_cases hwy : wy = 0
    · skip
      subst hwy
      have c0 := (Lc 0 _ rfl).1
      have c1 := (Lc 1 _ rfl).1
      have c2 := (Lc 2 _ rfl).1
      have c3 := (Lc 3 _ rfl).1
      have c4 := (Lc 4 _ rfl).1
      have hU : ∀ x ∈ S, x < W4.heap.size := fun x hx => (FK.out.2 x hx).2
      go_wp2_with fail
      refine (specAddShow_any _ ds dy _ ((h.below hb).2) hszd).mono ?_
      rintro e W5 ⟨x4, SX, rfl, ox, fx, q⟩
      clear c0 c1 c2 c3 c4
      obtain ⟨C1, l1, rfl, _, _⟩ := ox.rd.form
      have hzq : W4.heap.size ≤ W5.heap.size := by have := q.size; (try simp at this); omega
      replace Lc := Lc.below q
      replace Lr := Lr.below q
      replace Lo := Lo.below q
      have OK' := Lib.hid (OK.out.below q)
      clear OK; have OK := OK'; clear OK'
      have FK' := Lib.hid (fresh_mono (w' := W5) FK.out (Nat.le_refl _) hzq)
      clear FK; have FK := FK'; clear FK'
      replace hb : Below w.heap.size w W5 := hb.trans (q.mono hb.size)
      have hlow : W4.heap.size ≤ W4.heap.size := by first | exact Nat.le_refl _ | (simp; done) | (simp; omega) | omega
      have FX := Lib.hid (fresh_mono fx hlow (Nat.le_refl _))
      have DX : Hid (∀ x ∈ SX, x ∉ [w.heap.size, w.heap.size + 1, go]) := (fun x hx => by have := (FX.out.2 x hx).1; simp; omega)
      have OX := Lib.hid ox
      clear ox fx hlow
      clear q
      generalize (addF ds dy).2 = okc at *
      generalize (addF ds dy).1 = ds' at *
      have HJX : Hid (∀ x ∈ S, x ∉ SX) := (fun x hx hx' => by have := (FX.out.2 x hx').1; have := hU x hx; omega)
      clear hU
      cases okc
      · skip
        have o0 := (Lo 0 _ rfl).1
        have o1 := (Lo 1 _ rfl).1
        have o2 := (Lo 2 _ rfl).1
        have o3 := (Lo 3 _ rfl).1
        have o4 := (Lo 4 _ rfl).1
        have r0 := (Lr 0 _ rfl).1
        have rf0 := (Lr 0 _ rfl).2
        have r1 := (Lr 1 _ rfl).1
        have rf1 := (Lr 1 _ rfl).2
        have r2 := (Lr 2 _ rfl).1
        have rf2 := (Lr 2 _ rfl).2
        have r3 := (Lr 3 _ rfl).1
        have rf3 := (Lr 3 _ rfl).2
        have r4 := (Lr 4 _ rfl).1
        have rf4 := (Lr 4 _ rfl).2
        go_wp2_with fail
        refine bodyPost_ret (v := .tuple #[.agg #[.int .i64 n, .slice B1 cs.length k1, .slice B2 pl.length k2, .slice B3 ds.length k3, .int .i64 m], .bool false]) (by simp [results, Try.results29, go_sem, *]) rfl (bec_f (by simp) ⟨_, _, _, S, rfl, ?_, ?_, ?_⟩)
        · exact OK.out.chg (T := [w.heap.size + 1]) (by repeat' (first | (with_reducible exact Chg.refl _ _) | (with_reducible refine chg_set ?_ (by simp)))) (fun x hx hx' => DK.out x hx (by simp at hx'; subst hx'; simp))
        · exact fresh_mono FK.out (by omega) (by simp)
        · exact Below.chg hb (S := [w.heap.size + 1]) (by repeat' (first | (with_reducible exact Chg.refl _ _) | (with_reducible refine chg_set ?_ (by simp)))) hb.size (fun x hx => by simp at hx; omega)
      · skip
        obtain ⟨SK1, SK3, eK, oK, pK⟩ := OK.out
        have FKx := FK.out
        have DKx := DK.out
        rw [eK] at FKx DKx
        have OK1 := Lib.hid oK
        have OK3 := Lib.hid pK
        have FK1 := Lib.hid (fresh_left FKx)
        have FK3 := Lib.hid (fresh_right FKx)
        have DK1 : Hid (∀ x ∈ SK1, x ∉ [w.heap.size, w.heap.size + 1, go]) := (fun x hx => DKx x (List.mem_append_left _ hx))
        have DK3 : Hid (∀ x ∈ SK3, x ∉ [w.heap.size, w.heap.size + 1, go]) := (fun x hx => DKx x (List.mem_append_right _ hx))
        have JK : Hid (∀ x ∈ SK1, x ∉ SK3) := (nodup2 FKx.1).2.2.1
        clear OK FK DK FKx DKx oK pK
        clear OK3 FK3 DK3
        have o0 := (Lo 0 _ rfl).1
        have of0 := (Lo 0 _ rfl).2
        have o1 := (Lo 1 _ rfl).1
        have of1 := (Lo 1 _ rfl).2
        have o2 := (Lo 2 _ rfl).1
        have of2 := (Lo 2 _ rfl).2
        have o3 := (Lo 3 _ rfl).1
        have of3 := (Lo 3 _ rfl).2
        have o4 := (Lo 4 _ rfl).1
        have of4 := (Lo 4 _ rfl).2
        go_upto_region 8 with (fail)
        clear o0 of0 o1 of1 o2 of2 o3 of3 o4 of4
        replace Lc : Loc (W5.setCell ⟨go, 3, none⟩ (.slice C1 ds'.length l1)) (w.heap.size) [.int .i64 n, .slice A1 cs.length n1, .slice A2 pl.length n2, .slice A3 ds.length n3, .int .i64 m] := Lc.far (g := go) (i := 3) (u := .slice C1 ds'.length l1) (by omega)
        replace Lr : Loc (W5.setCell ⟨go, 3, none⟩ (.slice C1 ds'.length l1)) (w.heap.size + 1) [.int .i64 0, .slice none 0 0, .slice none 0 0, .slice none 0 0, .int .i64 0] := Lr.far (g := go) (i := 3) (u := .slice C1 ds'.length l1) (by omega)
        replace Lo : Loc (W5.setCell ⟨go, 3, none⟩ (.slice C1 ds'.length l1)) (go) [.int .i64 n, .slice B1 cs.length k1, .slice B2 pl.length k2, .slice C1 ds'.length l1, .int .i64 m] := Lo.set (i := 3) (v := .slice B3 ds.length k3) rfl
        have hch : Chg [go] W5 (W5.setCell ⟨go, 3, none⟩ (.slice C1 ds'.length l1)) := chg_set (Chg.refl _ _) (by simp)
        have OX' := Lib.hid (OX.out.chg hch (fun x hx hx' => DX.out x hx (by simp at hx'; subst hx'; simp)))
        clear OX; have OX := OX'; clear OX'
        have FX' := Lib.hid (fresh_mono (w' := (W5.setCell ⟨go, 3, none⟩ (.slice C1 ds'.length l1))) FX.out (Nat.le_refl _) hch.size)
        clear FX; have FX := FX'; clear FX'
        have OK1' := Lib.hid (OK1.out.chg hch (fun x hx hx' => DK1.out x hx (by simp at hx'; subst hx'; simp)))
        clear OK1; have OK1 := OK1'; clear OK1'
        have FK1' := Lib.hid (fresh_mono (w' := (W5.setCell ⟨go, 3, none⟩ (.slice C1 ds'.length l1))) FK1.out (Nat.le_refl _) hch.size)
        clear FK1; have FK1 := FK1'; clear FK1'
        replace hb : Below w.heap.size w (W5.setCell ⟨go, 3, none⟩ (.slice C1 ds'.length l1)) := Below.chg hb hch hb.size (by simp; omega)
        have hzc := hch.size
        clear hch
        generalize W5.setCell ⟨go, 3, none⟩ (.slice C1 ds'.length l1) = W6 at *
        have o4 := (Lo 4 _ rfl).1
        have c4 := (Lc 4 _ rfl).1
        have of4 := (Lo 4 _ rfl).2
        go_upto_region 9 with (fail)
        clear o4 c4 of4
        replace Lc : Loc (W6.setCell ⟨go, 4, none⟩ (.int .i64 (wrap64 (m + 30)))) (w.heap.size) [.int .i64 n, .slice A1 cs.length n1, .slice A2 pl.length n2, .slice A3 ds.length n3, .int .i64 m] := Lc.far (g := go) (i := 4) (u := .int .i64 (wrap64 (m + 30))) (by omega)
        replace Lr : Loc (W6.setCell ⟨go, 4, none⟩ (.int .i64 (wrap64 (m + 30)))) (w.heap.size + 1) [.int .i64 0, .slice none 0 0, .slice none 0 0, .slice none 0 0, .int .i64 0] := Lr.far (g := go) (i := 4) (u := .int .i64 (wrap64 (m + 30))) (by omega)
        replace Lo : Loc (W6.setCell ⟨go, 4, none⟩ (.int .i64 (wrap64 (m + 30)))) (go) [.int .i64 n, .slice B1 cs.length k1, .slice B2 pl.length k2, .slice C1 ds'.length l1, .int .i64 (wrap64 (m + 30))] := Lo.set (i := 4) (v := .int .i64 m) rfl
        have hch : Chg [go] W6 (W6.setCell ⟨go, 4, none⟩ (.int .i64 (wrap64 (m + 30)))) := chg_set (Chg.refl _ _) (by simp)
        have OX' := Lib.hid (OX.out.chg hch (fun x hx hx' => DX.out x hx (by simp at hx'; subst hx'; simp)))
        clear OX; have OX := OX'; clear OX'
        have FX' := Lib.hid (fresh_mono (w' := (W6.setCell ⟨go, 4, none⟩ (.int .i64 (wrap64 (m + 30))))) FX.out (Nat.le_refl _) hch.size)
        clear FX; have FX := FX'; clear FX'
        have OK1' := Lib.hid (OK1.out.chg hch (fun x hx hx' => DK1.out x hx (by simp at hx'; subst hx'; simp)))
        clear OK1; have OK1 := OK1'; clear OK1'
        have FK1' := Lib.hid (fresh_mono (w' := (W6.setCell ⟨go, 4, none⟩ (.int .i64 (wrap64 (m + 30))))) FK1.out (Nat.le_refl _) hch.size)
        clear FK1; have FK1 := FK1'; clear FK1'
        replace hb : Below w.heap.size w (W6.setCell ⟨go, 4, none⟩ (.int .i64 (wrap64 (m + 30)))) := Below.chg hb hch hb.size (by simp; omega)
        have hzc := hch.size
        clear hch
        generalize W6.setCell ⟨go, 4, none⟩ (.int .i64 (wrap64 (m + 30))) = W7 at *
        have FX' := Lib.hid (fresh_mono (B' := w.heap.size + 1 + 1) FX.out (by omega) (Nat.le_refl _))
        clear FX; have FX := FX'; clear FX'
        have OP : OwTheatre W7 (SK1 ++ SX) (.slice B1 cs.length k1) (.slice B2 pl.length k2) (.slice C1 ds'.length l1) cs pl ds' := ⟨_, _, rfl, OK1.out, OX.out⟩
        have FQ := Lib.hid (fresh_join FK1.out FX.out (fun x hx => HJX.out x (by rw [eK]; exact List.mem_append_left _ hx)))
        have DQ : Hid (∀ x ∈ SK1 ++ SX, x ∉ [w.heap.size, w.heap.size + 1, go]) := (fun x hx => (List.mem_append.1 hx).elim (DK1.out x) (DX.out x))
        have OQ := Lib.hid (OP)
        clear OK1 FK1 DK1 OX FX DX
        obtain ⟨SQ, hSQ⟩ : ∃ T, SK1 ++ SX = T := ⟨_, rfl⟩
        rw [hSQ] at OQ FQ DQ
        clear hSQ
        clear OP
        have o0 := (Lo 0 _ rfl).1
        have o1 := (Lo 1 _ rfl).1
        have o2 := (Lo 2 _ rfl).1
        have o3 := (Lo 3 _ rfl).1
        have o4 := (Lo 4 _ rfl).1
        go_wp2_with fail
        refine twoB (specTheatreOk_any n (wrap64 (m + 30)) _ _ _ cs pl ds' _ OQ.out.rd) (fun W8 hq' q => ?_) (fun W8 hq' q => ?_)
        · skip
          clear o0 o1 o2 o3 o4
          have hzq : W7.heap.size ≤ W8.heap.size := by have := q.size; (try simp at this); omega
          replace Lc := Lc.below q
          replace Lr := Lr.below q
          replace Lo := Lo.below q
          have OQ' := Lib.hid (OQ.out.below q)
          clear OQ; have OQ := OQ'; clear OQ'
          have FQ' := Lib.hid (fresh_mono (w' := W8) FQ.out (Nat.le_refl _) hzq)
          clear FQ; have FQ := FQ'; clear FQ'
          replace hb : Below w.heap.size w W8 := hb.trans (q.mono hb.size)
          clear q
          have o0 := (Lo 0 _ rfl).1
          have o1 := (Lo 1 _ rfl).1
          have o2 := (Lo 2 _ rfl).1
          have o3 := (Lo 3 _ rfl).1
          have o4 := (Lo 4 _ rfl).1
          have r0 := (Lr 0 _ rfl).1
          have rf0 := (Lr 0 _ rfl).2
          have r1 := (Lr 1 _ rfl).1
          have rf1 := (Lr 1 _ rfl).2
          have r2 := (Lr 2 _ rfl).1
          have rf2 := (Lr 2 _ rfl).2
          have r3 := (Lr 3 _ rfl).1
          have rf3 := (Lr 3 _ rfl).2
          have r4 := (Lr 4 _ rfl).1
          have rf4 := (Lr 4 _ rfl).2
          go_wp2_with fail
          refine bodyPost_ret (v := .tuple #[.agg #[.int .i64 n, .slice B1 cs.length k1, .slice B2 pl.length k2, .slice C1 ds'.length l1, .int .i64 (wrap64 (m + 30))], .bool true]) (by simp [results, Try.results29, go_sem, *]) rfl (bec_t ⟨hq.out, rfl, hq'.out⟩ ⟨_, _, _, SQ, rfl, ?_, ?_, ?_⟩)
          · exact OQ.out.chg (T := [w.heap.size + 1]) (by repeat' (first | (with_reducible exact Chg.refl _ _) | (with_reducible refine chg_set ?_ (by simp)))) (fun x hx hx' => DQ.out x hx (by simp at hx'; subst hx'; simp))
          · exact fresh_mono FQ.out (by omega) (by simp)
          · exact Below.chg hb (S := [w.heap.size + 1]) (by repeat' (first | (with_reducible exact Chg.refl _ _) | (with_reducible refine chg_set ?_ (by simp)))) hb.size (fun x hx => by simp at hx; omega)
        · skip
          clear o0 o1 o2 o3 o4
          have hzq : W7.heap.size ≤ W8.heap.size := by have := q.size; (try simp at this); omega
          replace Lc := Lc.below q
          replace Lr := Lr.below q
          replace Lo := Lo.below q
          have OQ' := Lib.hid (OQ.out.below q)
          clear OQ; have OQ := OQ'; clear OQ'
          have FQ' := Lib.hid (fresh_mono (w' := W8) FQ.out (Nat.le_refl _) hzq)
          clear FQ; have FQ := FQ'; clear FQ'
          replace hb : Below w.heap.size w W8 := hb.trans (q.mono hb.size)
          clear q
          have c0 := (Lc 0 _ rfl).1
          have c1 := (Lc 1 _ rfl).1
          have c2 := (Lc 2 _ rfl).1
          have c3 := (Lc 3 _ rfl).1
          have c4 := (Lc 4 _ rfl).1
          go_wp2_with fail
          refine (l38Copy_any n m _ _ _ cs pl ds _ (h.below hb) hsz).mono ?_
          rintro e W9 ⟨y1, y2, y3, T, rfl, ow6, f6, q⟩
          clear c0 c1 c2 c3 c4
          obtain ⟨⟨D1, e1, rfl⟩, ⟨D2, e2, rfl⟩, ⟨D3, e3, rfl⟩⟩ := ow6.rd.forms
          have hzq : W8.heap.size ≤ W9.heap.size := by have := q.size; (try simp at this); omega
          replace Lc := Lc.below q
          replace Lr := Lr.below q
          replace Lo := Lo.below q
          have OQ' := Lib.hid (OQ.out.below q)
          clear OQ; have OQ := OQ'; clear OQ'
          have FQ' := Lib.hid (fresh_mono (w' := W9) FQ.out (Nat.le_refl _) hzq)
          clear FQ; have FQ := FQ'; clear FQ'
          replace hb : Below w.heap.size w W9 := hb.trans (q.mono hb.size)
          have hlow : W8.heap.size ≤ W8.heap.size := by first | exact Nat.le_refl _ | (simp; done) | (simp; omega) | omega
          have FZ := Lib.hid (fresh_mono f6 hlow (Nat.le_refl _))
          have DZ : Hid (∀ x ∈ T, x ∉ [w.heap.size, w.heap.size + 1, go]) := (fun x hx => by have := (FZ.out.2 x hx).1; simp; omega)
          have OZ := Lib.hid ow6
          clear ow6 f6 hlow
          clear q
          have r0 := (Lr 0 _ rfl).1
          have rf0 := (Lr 0 _ rfl).2
          have r1 := (Lr 1 _ rfl).1
          have rf1 := (Lr 1 _ rfl).2
          have r2 := (Lr 2 _ rfl).1
          have rf2 := (Lr 2 _ rfl).2
          have r3 := (Lr 3 _ rfl).1
          have rf3 := (Lr 3 _ rfl).2
          have r4 := (Lr 4 _ rfl).1
          have rf4 := (Lr 4 _ rfl).2
          go_wp2_with fail
          refine bodyPost_ret (v := .tuple #[.agg #[.int .i64 n, .slice D1 cs.length e1, .slice D2 pl.length e2, .slice D3 ds.length e3, .int .i64 m], .bool false]) (by simp [results, Try.results29, go_sem, *]) rfl (bec_f (fun hh => absurd (show theatreB n (wrap64 (m + 30)) cs pl ds' = true from hh.2.2) (by rw [hq'.out]; simp)) ⟨_, _, _, T, rfl, ?_, ?_, ?_⟩)
          · exact OZ.out.chg (T := [w.heap.size + 1]) (by repeat' (first | (with_reducible exact Chg.refl _ _) | (with_reducible refine chg_set ?_ (by simp)))) (fun x hx hx' => DZ.out x hx (by simp at hx'; subst hx'; simp))
          · exact fresh_mono FZ.out (by omega) (by simp)
          · exact Below.chg hb (S := [w.heap.size + 1]) (by repeat' (first | (with_reducible exact Chg.refl _ _) | (with_reducible refine chg_set ?_ (by simp)))) hb.size (fun x hx => by simp at hx; omega)
    · skip
      have hwb : (wy == 0) = false := by rw [beq_eq_false_iff_ne]; exact hwy
      have hwn : (wy != 0) = true := by rw [bne_iff_ne]; exact hwy
      have HWB := Lib.hid hwb
      clear hwb hwy
      have o0 := (Lo 0 _ rfl).1
      have o1 := (Lo 1 _ rfl).1
      have o2 := (Lo 2 _ rfl).1
      have o3 := (Lo 3 _ rfl).1
      have o4 := (Lo 4 _ rfl).1
      have r0 := (Lr 0 _ rfl).1
      have rf0 := (Lr 0 _ rfl).2
      have r1 := (Lr 1 _ rfl).1
      have rf1 := (Lr 1 _ rfl).2
      have r2 := (Lr 2 _ rfl).1
      have rf2 := (Lr 2 _ rfl).2
      have r3 := (Lr 3 _ rfl).1
      have rf3 := (Lr 3 _ rfl).2
      have r4 := (Lr 4 _ rfl).1
      have rf4 := (Lr 4 _ rfl).2
      go_wp2_with fail
      refine bodyPost_ret (v := .tuple #[.agg #[.int .i64 n, .slice B1 cs.length k1, .slice B2 pl.length k2, .slice B3 ds.length k3, .int .i64 m], .bool false]) (by simp [results, Try.results29, go_sem, *]) rfl (bec_f (fun hh => absurd hh.2.1 (by rw [HWB.out, Bool.and_false]; simp)) ⟨_, _, _, S, rfl, ?_, ?_, ?_⟩)
      · exact OK.out.chg (T := [w.heap.size + 1]) (by repeat' (first | (with_reducible exact Chg.refl _ _) | (with_reducible refine chg_set ?_ (by simp)))) (fun x hx hx' => DK.out x hx (by simp at hx'; subst hx'; simp))
      · exact fresh_mono FK.out (by omega) (by simp)
      · exact Below.chg hb (S := [w.heap.size + 1]) (by repeat' (first | (with_reducible exact Chg.refl _ _) | (with_reducible refine chg_set ?_ (by simp)))) hb.size (fun x hx => by simp at hx; omega)
  · skip
    clear c0 c1 c2 c3 c4
    have hzq : W2.heap.size ≤ W3.heap.size := by have := q.size; (try simp at this); omega
    replace Lc := Lc.below q
    replace Lr := Lr.below q
    replace Lo := Lo.below q
    have OK' := Lib.hid (OK.out.below q)
    clear OK; have OK := OK'; clear OK'
    have FK' := Lib.hid (fresh_mono (w' := W3) FK.out (Nat.le_refl _) hzq)
    clear FK; have FK := FK'; clear FK'
    replace hb : Below w.heap.size w W3 := hb.trans (q.mono hb.size)
    clear q
    have o0 := (Lo 0 _ rfl).1
    have o1 := (Lo 1 _ rfl).1
    have o2 := (Lo 2 _ rfl).1
    have o3 := (Lo 3 _ rfl).1
    have o4 := (Lo 4 _ rfl).1
    have r0 := (Lr 0 _ rfl).1
    have rf0 := (Lr 0 _ rfl).2
    have r1 := (Lr 1 _ rfl).1
    have rf1 := (Lr 1 _ rfl).2
    have r2 := (Lr 2 _ rfl).1
    have rf2 := (Lr 2 _ rfl).2
    have r3 := (Lr 3 _ rfl).1
    have rf3 := (Lr 3 _ rfl).2
    have r4 := (Lr 4 _ rfl).1
    have rf4 := (Lr 4 _ rfl).2
    go_wp2_with fail
    refine bodyPost_ret (v := .tuple #[.agg #[.int .i64 n, .slice B1 cs.length k1, .slice B2 pl.length k2, .slice B3 ds.length k3, .int .i64 m], .bool false]) (by simp [results, Try.results29, go_sem, *]) rfl (bec_f (fun hh => absurd (show theatreB n m cs pl ds = true from hh.1) (by rw [hq.out]; simp)) ⟨_, _, _, S, rfl, ?_, ?_, ?_⟩)
    · exact OK.out.chg (T := [w.heap.size + 1]) (by repeat' (first | (with_reducible exact Chg.refl _ _) | (with_reducible refine chg_set ?_ (by simp)))) (fun x hx hx' => DK.out x hx (by simp at hx'; subst hx'; simp))
    · exact fresh_mono FK.out (by omega) (by simp)
    · exact Below.chg hb (S := [w.heap.size + 1]) (by repeat' (first | (with_reducible exact Chg.refl _ _) | (with_reducible refine chg_set ?_ (by simp)))) hb.size (fun x hx => by simp at hx; omega)
theorem show2 (n m dy : Int) (cs : List RCross) (pl : List RPl) (ds : List Int) : ∃ n' m' ok cs' pl' ds', (szTheatre cs' pl' ds' ≤ szTheatre cs pl ds ∨ szTheatre cs' pl' ds' ≤ 148) ∧
    (∀ W v1 v2 v3, RdTheatre W v1 v2 v3 cs pl ds → szTheatre cs pl ds ≤ 1048576 → Calls Try.prog 29 #[.agg #[.int .i64 n, v1, v2, v3, .int .i64 m], .int .i64 dy] W (RetT W.heap.size n' m' ok cs' pl' ds' W)) ∧
    (∀ W v1 v2 v3, RdTheatre W v1 v2 v3 cs pl ds → szTheatre cs pl ds ≤ 1048576 → Calls Try.prog 31 #[.agg #[.int .i64 n, v1, v2, v3, .int .i64 m], .int .i64 dy] W (RetT W.heap.size n' m' ok cs' pl' ds' W)) :=
  ⟨_, _, _, _, _, _, bec_sz ⟨n, m, cs, pl, ds⟩ _ _, fun W v1 v2 v3 hr hs => specGiveShow_any n m dy v1 v2 v3 cs pl ds W hr hs, fun W v1 v2 v3 hr hs => implGiveShow_any n m dy v1 v2 v3 cs pl ds W hr hs⟩
end Go.Proofs.Ytjbhlbcjljdjmaa
