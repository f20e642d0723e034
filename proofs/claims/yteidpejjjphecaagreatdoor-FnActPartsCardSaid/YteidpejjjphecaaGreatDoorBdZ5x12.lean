/- Several texts in one: Unwinding, of the reference. Written by a program (gen_z3.py). Contracts: a company untwists (both). Written by a program (gen_k16.py). Contracts: PutInOrder. Written by a program (gen_k19.py). Contracts: DoAct of the program. Written by a program (gen_k21.py). Contracts: DoAct of the reference. Written by a program (gen_k21.py). Contracts: RunActs of the program. Written by a program (gen_k23.py). What acts keep: the words still stand. Plain. Written by a program (gen_w11.py). Plain: a scenario stopped after any act and continued. No program in sight. The drawing of companies. Written by a program (gen_w8.py). The drawing of theatres and of acts. Written by a program (gen_w10.py). The drawing of a theatre with acts; what acts keep. Written by a program (gen_w11.py). The drawing of places: twelve numbers below 10000. Written by a program (gen_w13.py). -/
import Derived.Deep.DeepCutAuto
import Derived.Deep.RegionHeld3
import Derived.Test.YteidpejjjphecaaGreatDoorBdY7x8
import Derived.Test.YteidpejjjphecaaGreatDoorBdB3x18
import Derived.Test.YteidpejjjphecaaGreatDoorBdI7x14
import Derived.Test.YteidpejjjphecaaGreatDoorBdM5x8
import Derived.Test.YteidpejjjphecaaGreatDoorBdK1x7
import Derived.Test.YteidpejjjphecaaGreatDoorBdK3x9
namespace Go.Proofs.YteidpejjjphecaaGreatDoor
open Go.RowKit
theorem act82sa {a : Act} (h : a.tmps.size = 82) (hd : a.defers = []) : ∃ x0 x1 x2 x3 x4 x5 x6 x7 x8 x9 x10 x11 x12 x13 x14 x15 x16 x17 x18 x19 x20 x21 x22 x23 x24 x25 x26 x27 x28 x29 x30 x31 x32 x33 x34 x35 x36 x37 x38 x39 x40 x41 x42 x43 x44 x45 x46 x47 x48 x49 x50 x51 x52 x53 x54 x55 x56 x57 x58 x59 x60 x61 x62 x63 x64 x65 x66 x67 x68 x69 x70 x71 x72 x73 x74 x75 x76 x77 x78 x79 x80 x81 : Value, a = ⟨#[x0, x1, x2, x3, x4, x5, x6, x7, x8, x9, x10, x11, x12, x13, x14, x15, x16, x17, x18, x19, x20, x21, x22, x23, x24, x25, x26, x27, x28, x29, x30, x31, x32, x33, x34, x35, x36, x37, x38, x39, x40, x41, x42, x43, x44, x45, x46, x47, x48, x49, x50, x51, x52, x53, x54, x55, x56, x57, x58, x59, x60, x61, x62, x63, x64, x65, x66, x67, x68, x69, x70, x71, x72, x73, x74, x75, x76, x77, x78, x79, x80, x81], []⟩ := by
 obtain ⟨⟨l⟩, d⟩ := a
 subst hd
 match l, h with
 | x0 :: x1 :: x2 :: x3 :: x4 :: x5 :: x6 :: x7 :: x8 :: x9 :: x10 :: x11 :: x12 :: x13 :: x14 :: x15 :: x16 :: x17 :: x18 :: x19 :: x20 :: x21 :: x22 :: x23 :: x24 :: x25 :: x26 :: x27 :: x28 :: x29 :: x30 :: x31 :: x32 :: x33 :: x34 :: x35 :: x36 :: x37 :: x38 :: x39 :: x40 :: x41 :: x42 :: x43 :: x44 :: x45 :: x46 :: x47 :: x48 :: x49 :: x50 :: x51 :: x52 :: x53 :: x54 :: x55 :: x56 :: x57 :: x58 :: x59 :: x60 :: x61 :: x62 :: x63 :: x64 :: x65 :: x66 :: x67 :: x68 :: x69 :: x70 :: x71 :: x72 :: x73 :: x74 :: x75 :: x76 :: x77 :: x78 :: x79 :: x80 :: x81 :: [], _ => exact ⟨x0, x1, x2, x3, x4, x5, x6, x7, x8, x9, x10, x11, x12, x13, x14, x15, x16, x17, x18, x19, x20, x21, x22, x23, x24, x25, x26, x27, x28, x29, x30, x31, x32, x33, x34, x35, x36, x37, x38, x39, x40, x41, x42, x43, x44, x45, x46, x47, x48, x49, x50, x51, x52, x53, x54, x55, x56, x57, x58, x59, x60, x61, x62, x63, x64, x65, x66, x67, x68, x69, x70, x71, x72, x73, x74, x75, x76, x77, x78, x79, x80, x81, rfl⟩
def psa (B m pl cp go k p q : Nat) (g cg n : Nat) (t : Int) (f : Bool) (xs : List Value) (i : Nat) (v : Value) (_ : Nat → Nat) (w : World) : Prop :=
 match i with
 | 0 => v = .int .i64 m
 | 1 => v = .slice (some ⟨go, 0, none⟩) pl cp
 | 2 => v = .int .i64 k
 | 3 => v = .pointer (some ⟨go, k, none⟩)
 | 4 => v = .slice (some ⟨g, 0, none⟩) 2 cg
 | 5 => v = .pointer (some ⟨g, 0, none⟩)
 | 6 => v = .int .i64 p
 | 7 => v = .slice (some ⟨go, 0, none⟩) pl cp
 | 8 => v = .int .i64 k
 | 9 => v = .pointer (some ⟨go, k, none⟩)
 | 10 => v = .slice (some ⟨g, 0, none⟩) 2 cg
 | 11 => v = .pointer (some ⟨g, 1, none⟩)
 | 12 => v = .int .i64 q
 | 13 => v = .int .i64 t
 | 14 => v = .bool f
 | 15 => ∃ A c, v = .tuple #[.slice A n c, .bool true] ∧ w.ownsRow B 79 2 (.slice A n c) n xs
 | 16 => ∃ A c, v = .tuple #[.slice A n c, .bool true] ∧ w.ownsRow B 79 2 (.slice A n c) n xs
 | 17 => ∃ A c, v = .slice A n c ∧ w.ownsRow B 79 2 (.slice A n c) n xs
 | 18 => v = .bool true
 | 19 => ∃ A c, v = .slice A n c ∧ w.ownsRow B 79 2 (.slice A n c) n xs
 | _ => True
set_option maxHeartbeats 8000000 in
set_option maxRecDepth 100000 in
theorem specUnwindAll_any (n : Int) (v : Value) (cs : List RCross) (w : World) (h : RdL cCross 2 w v cs) :
  Calls Tryz.prog 96 #[.int .i64 n, v] w (RetUnw (unwB n cs) (unwV n cs) w) := by
 have h0 := h
 obtain ⟨A, c, rfl, h1, h2⟩ := h.form
 obtain ⟨iX, hiX, hzX0, hzX1, hzX2⟩ := info_parts infoCross
 have hownA := World.ownsRow_made (size := 2) (e := 79) w #[] 0 (Nat.le_refl _) (by simp [maxLen]) rfl
 have hbA : Below w.heap.size w (w.alloc (.cells #[] 79)) := (Below.refl _ _).alloc (Nat.le_refl _) _
 have hrdA := h0.below hbA
 go_enter Tryz.func96, Tryz.ntmps96
 go_wp2_with fail
 refine twoB (specCrossesOk_any n _ cs _ hrdA) (fun w1 hq hb1 => ?_) (fun w1 hq hb1 => ?_)
 ·obtain ⟨hn, hlen, hcs⟩ := crosses_len hq.out
  obtain ⟨m, rfl⟩ := Int.eq_ofNat_of_zero_le (show 0 ≤ n by omega)
  have hm : 1 ≤ m ∧ m ≤ 7 := by omega
  have hrd1 := hrdA.below hb1
  have HSQ := Lib.hid (twL_sq hcs)
  have HBD := Lib.hid (twL_40 hcs (by omega))
  have HO := Lib.hid (IsOrd.order hcs)
  have hown1 := own_below hownA hb1
  have hb01 : Below w.heap.size w w1 := bl_trans hbA hb1
  have hC := specOrderAfter_any (m : Int) _ cs w1 hrd1
  rw [ordR_t hq.out] at hC
  clear hcs hn hrdA hownA hbA hb1
  go_wp2_with fail
  refine hC.mono ?_
  rintro e w2 ⟨v2, rfl, own2, hb2⟩
  have hr2 : RdL cInt 1 w2 v2 (orderF m cs) := RdS.of_own own2
  obtain ⟨A2, c2, rfl, _, _⟩ := hr2.form
  have hown2 := own_below hown1 hb2
  have hrd2 := hrd1.below hb2
  have hb02 : Below w.heap.size w w2 := bl_trans hb01 hb2
  have hCI := specCountInv_any _ _ w2 hr2 (HO.out.okB hm)
  have HI : Hid (inv (orderF m cs) = 0 ↔ orderF m cs = upN m) := HO.out.inv_zero
  obtain ⟨ol, hol⟩ : ∃ ol, (orderF m cs).length = ol := ⟨_, rfl⟩
  rw [hol] at hCI hr2
  rw [hol]
  obtain ⟨I, hI⟩ : ∃ I, inv (orderF m cs) = I := ⟨_, rfl⟩
  rw [hI] at hCI HI
  clear own2 hb2 hC hown1 hrd1 hb01 hol hI
  go_wp2_with fail
  refine hCI.mono ?_
  rintro e w3 ⟨rfl, hb3⟩
  have hown3 := own_below hown2 hb3
  have hrd3 := hrd2.below hb3
  have hb03 : Below w.heap.size w w3 := bl_trans hb02 hb3
  clear hCI hr2 hown2 hrd2 hb02 hb3
  by_cases hI0 : I = 0
  ·have HU := Lib.hid (unwB_t hq.out (HI.out.1 hI0))
   subst hI0
   clear HI
   go_wp2_with fail
   refine (specWound_any m _ cs _ hrd3 hq.out).mono ?_
   rintro e w4 ⟨vp, rfl, ⟨Sp, hp, hfp, _⟩, hb4⟩
   have hz4 := hb4.size
   obtain ⟨Ap, cp, rfl, _, _⟩ := hp.rd.form
   have hown4 := own_below hown3 hb4
   have hb04 : Below w.heap.size w w4 := bl_trans hb03 hb4
   have hap4 : Hid (∀ b ∈ Sp, b ∉ (Value.slice (some ⟨w.heap.size, 0, none⟩) 0 0).ownBlock.toList) := fun b hb hb' => by
    have := (hfp.2 b hb).1
    have h2 := (own_lt hown3 w.heap.size (by simp [Value.ownBlock])).2
    simp [Value.ownBlock] at hb'
    omega
   have hSp : ∀ b ∈ Sp, b < w4.heap.size := fun b hb => (hfp.2 b hb).2
   have hSn := hfp.1
   have HPm : Hid (∀ k (hk : k < (woundL m cs).length), ∃ i j : Nat, (woundL m cs)[k] = [(i : Int), (j : Int)] ∧ i < j ∧ j < m) := fun k hk => woundPair hk
   have HPl : Hid (∀ k, (unwTo (twL m cs) ((woundL m cs).take k)).length ≤ 49 * 400) := fun k => by
    have e1 := unwTo_len (ll := twL m cs) (ps := (woundL m cs).take k) hm.2 (fun r hr => wound_mem r (List.mem_of_mem_take hr)) HBD.out
    have h2 := woundTo_len (twL m cs) m m
    have h3 : m * m ≤ 7 * 7 := Nat.mul_le_mul (by omega) (by omega)
    have h4 : ((woundL m cs).take k).length ≤ 49 := by rw [List.length_take]; unfold woundL; omega
    have h5 := Nat.mul_le_mul_right 400 h4
    omega
   have HUL : Hid (unwindL m cs = unwTo (twL m cs) (woundL m cs)) := rfl
   have hlp : (woundL m cs).length ≤ 49 := by
    have h2 := woundTo_len (twL m cs) m m
    have h3 : m * m ≤ 7 * 7 := Nat.mul_le_mul (by omega) (by omega)
    unfold woundL; omega
   have HTO : Hid (∀ (i j : Nat) (W : World) (v : Value), RdL cCross 2 W v cs → i < m → j < m → Calls Tryz.prog 117 #[.int .i64 m, v, .int .i64 i, .int .i64 j] W fun e w' => e = .returned (.int .i64 (cellT (twL m cs) i j)) ∧ Below W.heap.size W w') := fun i j W v hr hi hj => specTwistOf_any m i j v cs W hr hq.out hi hj
   clear hown3 hfp hb4 hrd3 hb03
   generalize woundL m cs = ps at *
   generalize twL m cs = tw at *
   go_wp2_with fail
   go_loopw [6, 8, 9, 10, 11, 12] (fun p i _ _ _ _ wr => ∃ k : Nat, k ≤ ps.length ∧ i = .int .i64 k ∧ wr.ownsRow w.heap.size 79 2 p (unwTo tw (ps.take k)).length ((unwTo tw (ps.take k)).flatMap cCross) ∧ OwRows 28 3 wr Sp (.slice Ap ps.length cp) ps ∧ Hid (∀ b ∈ Sp, b ∉ p.ownBlock.toList) ∧ w4.heap.size ≤ wr.heap.size ∧ Below w.heap.size w wr) (fun _ i _ _ _ _ _ => ps.length - (intOf i).toNat)
   case atStart => exact ⟨0, Nat.zero_le _, rfl, hown4, hp, hap4, Nat.le_refl _, hb04⟩
   case round =>
    obtain ⟨k, hk, rfl, hown, hp, hap, hzw, hb⟩ := hrel
    clear hown4 hap4 hb04
    have hz := hb.size
    obtain ⟨Ao, co, rfl, _, _⟩ := (RdS.of_own hown).form
    by_cases hlt : k < ps.length
    ·obtain ⟨i, j, hpk, hij, hjm⟩ := HPm.out k hlt
     have HSN := Lib.hid (unwTo_snoc tw ps hlt)
     have HPK := Lib.hid hpk
     obtain ⟨go, cop, g, cg, e, c1, c2, c3, hgS⟩ := hp.pairAt hSn hlt hpk
     injection e with e1 e2 e3
     subst e1 e3
     clear e2 hpk
     have HTT : Hid (unwR tw ps[k] = manyL (turnL i j (decide (cellT tw i j < 0))) (timesT (cellT tw i j))) := by show _ = _; rw [HPK.out, unwR_pair]
     rw [HTT.out] at HSN
     clear HTT
     have htb := HBD.out i j
     have hTO := HTO.out i j wr.drew _ (h0.below hb.drew) (by omega) hjm
     obtain ⟨t, ht⟩ : ∃ t, cellT tw i j = t := ⟨_, rfl⟩
     rw [ht] at hTO htb HSN
     have hl0 := HPl.out k
     obtain ⟨dn1, hd1⟩ : ∃ dn1, unwTo tw (ps.take (k + 1)) = dn1 := ⟨_, rfl⟩
     rw [hd1] at HSN
     have HD1 := Lib.hid hd1
     clear ht hd1
     generalize unwTo tw (ps.take k) = d0 at *
     go_upto_region 8 with (fail)
     go_still_tail 14, (by kernel_rfl)
     change wpList _ _ _ _ _ (World.drew wr)
     go_wp2_with fail
     refine hTO.mono ?_
     rintro e wq ⟨rfl, hb5⟩
     have hb5' : Below wr.heap.size wr wq := bl_trans ((Below.refl _ _).drew) hb5
     have hown5 := own_below hown hb5'
     have hp5 := hp.below hb5'
     have hb05 : Below w.heap.size w wq := bl_trans hb hb5'
     have hz5 := hb5'.size
     have c1' := carry hb5' c1
     have c2' := carry hb5' c2
     have c3' := carry hb5' c3
     clear c1 c2 c3 hown hp hb hb5 hb5' hTO
     go_upto_region 9 with (fail)
     have hTL : (turnL i j (decide (t < 0))).length ≤ 16 := by have := turnL_len i j (decide (t < 0)); omega
     have HTu : Hid (∀ w, Calls Tryz.prog 118 #[.int .i64 m, .int .i64 i, .int .i64 j, .bool (decide (t < 0))] w fun e w' => ∃ v', e = .returned (.tuple #[v', .bool true]) ∧ w'.ownsRow w.heap.size 79 2 v' (turnL i j (decide (t < 0))).length ((turnL i j (decide (t < 0))).flatMap cCross) ∧ Below w.heap.size w w') := fun w => specTurn_any m i j (decide (t < 0)) w hij hjm hm.2
     have HML : Hid (∀ a, a ≤ 20 → (manyL (turnL i j (decide (t < 0))) a).length ≤ 400) := fun a ha => many_len hjm hm.2 ha
     generalize turnL i j (decide (t < 0)) = TL at *
     refine region_made (n := 82) 20 (by kernel_rfl) rfl (by kernel_rfl) (fun w' => Below wq.heap.size wq w') (fun _ => 0) (psa wq.heap.size m ps.length cp go k i j g cg TL.length t (decide (t < 0)) (TL.flatMap cCross)) (Below.refl _ _).drew ?_ ?_ ?_
     ·intro i v gh gh' w1 w2 hp hJ hb' hg
      match i, hp with
      | 0, hp => exact hp
      | 1, hp => exact hp
      | 2, hp => exact hp
      | 3, hp => exact hp
      | 4, hp => exact hp
      | 5, hp => exact hp
      | 6, hp => exact hp
      | 7, hp => exact hp
      | 8, hp => exact hp
      | 9, hp => exact hp
      | 10, hp => exact hp
      | 11, hp => exact hp
      | 12, hp => exact hp
      | 13, hp => exact hp
      | 14, hp => exact hp
      | 15, ⟨A', c', hv, ho⟩ => exact ⟨A', c', hv, own_below ho hb'⟩
      | 16, ⟨A', c', hv, ho⟩ => exact ⟨A', c', hv, own_below ho hb'⟩
      | 17, ⟨A', c', hv, ho⟩ => exact ⟨A', c', hv, own_below ho hb'⟩
      | 18, hp => exact hp
      | 19, ⟨A', c', hv, ho⟩ => exact ⟨A', c', hv, own_below ho hb'⟩
      | _ + 20, _ => trivial
     ·refine ⟨?_, ?_, ?_, ?_, ?_, ?_, ?_, ?_, ?_, ?_, ?_, ?_, ?_, ?_, ?_, ?_, ?_, ?_, ?_, ?_, trivial⟩
      all_goals
       intro a gh w5 hag hJ hd
       have ag0 : a.tmps.getD 0 undef = .int .i64 m := hag.kept 0 (by kernel_rfl)
       have ag7 : a.tmps.getD 7 undef = .slice (some ⟨go, 0, none⟩) ps.length cp := hag.kept 7 (by kernel_rfl)
       have ag8 : a.tmps.getD 8 undef = .int .i64 k := hag.kept 8 (by kernel_rfl)
       have ag9 : a.tmps.getD 9 undef = .int .i64 t := hag.kept 9 (by kernel_rfl)
       clear hag
      ·go_wp2_with fail
       exact ⟨rfl, _, rfl, rfl, hJ, Below.refl _ _⟩
      ·go_wp2_with fail
       exact ⟨rfl, _, rfl, rfl, hJ, Below.refl _ _⟩
      ·go_wp2_with fail
       exact ⟨rfl, _, rfl, rfl, hJ, Below.refl _ _⟩
      ·have e0 : a.tmps.getD 52 undef = .slice (some ⟨go, 0, none⟩) ps.length cp := hd 1 (by kernel_rfl) _ rfl
       have e1 : a.tmps.getD 53 undef = .int .i64 k := hd 2 (by kernel_rfl) _ rfl
       go_wp2_with fail
       exact ⟨rfl, _, rfl, rfl, hJ, Below.refl _ _⟩
      ·have e0 : a.tmps.getD 54 undef = .pointer (some ⟨go, k, none⟩) := hd 3 (by kernel_rfl) _ rfl
       have k0 := carry hJ c1'
       go_wp2_with fail
       exact ⟨rfl, _, rfl, rfl, hJ, Below.refl _ _⟩
      ·have e0 : a.tmps.getD 55 undef = .slice (some ⟨g, 0, none⟩) 2 cg := hd 4 (by kernel_rfl) _ rfl
       go_wp2_with fail
       exact ⟨rfl, _, rfl, rfl, hJ, Below.refl _ _⟩
      ·have e0 : a.tmps.getD 56 undef = .pointer (some ⟨g, 0, none⟩) := hd 5 (by kernel_rfl) _ rfl
       have k0 := carry hJ c2'
       go_wp2_with fail
       exact ⟨rfl, _, rfl, rfl, hJ, Below.refl _ _⟩
      ·go_wp2_with fail
       exact ⟨rfl, _, rfl, rfl, hJ, Below.refl _ _⟩
      ·go_wp2_with fail
       exact ⟨rfl, _, rfl, rfl, hJ, Below.refl _ _⟩
      ·have e0 : a.tmps.getD 58 undef = .slice (some ⟨go, 0, none⟩) ps.length cp := hd 7 (by kernel_rfl) _ rfl
       have e1 : a.tmps.getD 59 undef = .int .i64 k := hd 8 (by kernel_rfl) _ rfl
       go_wp2_with fail
       exact ⟨rfl, _, rfl, rfl, hJ, Below.refl _ _⟩
      ·have e0 : a.tmps.getD 60 undef = .pointer (some ⟨go, k, none⟩) := hd 9 (by kernel_rfl) _ rfl
       have k0 := carry hJ c1'
       go_wp2_with fail
       exact ⟨rfl, _, rfl, rfl, hJ, Below.refl _ _⟩
      ·have e0 : a.tmps.getD 61 undef = .slice (some ⟨g, 0, none⟩) 2 cg := hd 10 (by kernel_rfl) _ rfl
       go_wp2_with fail
       exact ⟨rfl, _, rfl, rfl, hJ, Below.refl _ _⟩
      ·have e0 : a.tmps.getD 62 undef = .pointer (some ⟨g, 1, none⟩) := hd 11 (by kernel_rfl) _ rfl
       have k0 := carry hJ c3'
       go_wp2_with fail
       exact ⟨rfl, _, rfl, rfl, hJ, Below.refl _ _⟩
      ·go_wp2_with fail
       exact ⟨rfl, _, rfl, rfl, hJ, Below.refl _ _⟩
      ·have e0 : a.tmps.getD 64 undef = .int .i64 t := hd 13 (by kernel_rfl) _ rfl
       go_wp2_with fail
       exact ⟨rfl, _, rfl, rfl, hJ, Below.refl _ _⟩
      ·have e0 : a.tmps.getD 51 undef = .int .i64 m := hd 0 (by kernel_rfl) _ rfl
       have e1 : a.tmps.getD 57 undef = .int .i64 i := hd 6 (by kernel_rfl) _ rfl
       have e2 : a.tmps.getD 63 undef = .int .i64 j := hd 12 (by kernel_rfl) _ rfl
       have e3 : a.tmps.getD 65 undef = .bool (decide (t < 0)) := hd 14 (by kernel_rfl) _ rfl
       go_wp2_with fail
       refine (HTu.out _).mono ?_
       rintro e w6 ⟨v5, rfl, own5, hb5⟩
       obtain ⟨A5, c5, rfl, _, _⟩ := (RdS.of_own own5).form
       go_wp2_with fail
       exact ⟨rfl, _, rfl, ⟨A5, c5, rfl, own_mono own5 hJ.size⟩, bl_trans hJ hb5, hb5⟩
      ·obtain ⟨A', c', e0, ho⟩ : ∃ A c, a.tmps.getD 66 undef = .tuple #[.slice A TL.length c, .bool true] ∧ w5.ownsRow wq.heap.size 79 2 (.slice A TL.length c) TL.length (TL.flatMap cCross) := hd 15 (by kernel_rfl) _ rfl
       go_wp2_with fail
       exact ⟨rfl, _, rfl, ⟨A', c', rfl, ho⟩, hJ, Below.refl _ _⟩
      ·obtain ⟨A', c', e0, ho⟩ : ∃ A c, a.tmps.getD 50 undef = .tuple #[.slice A TL.length c, .bool true] ∧ w5.ownsRow wq.heap.size 79 2 (.slice A TL.length c) TL.length (TL.flatMap cCross) := hd 16 (by kernel_rfl) _ rfl
       go_wp2_with fail
       exact ⟨rfl, _, rfl, ⟨A', c', rfl, ho⟩, hJ, Below.refl _ _⟩
      ·obtain ⟨A', c', e0, ho⟩ : ∃ A c, a.tmps.getD 50 undef = .tuple #[.slice A TL.length c, .bool true] ∧ w5.ownsRow wq.heap.size 79 2 (.slice A TL.length c) TL.length (TL.flatMap cCross) := hd 16 (by kernel_rfl) _ rfl
       go_wp2_with fail
       exact ⟨rfl, _, rfl, rfl, hJ, Below.refl _ _⟩
      ·obtain ⟨A', c', e0, ho⟩ : ∃ A c, a.tmps.getD 67 undef = .slice A TL.length c ∧ w5.ownsRow wq.heap.size 79 2 (.slice A TL.length c) TL.length (TL.flatMap cCross) := hd 17 (by kernel_rfl) _ rfl
       go_wp2_with fail
       exact ⟨rfl, _, rfl, ⟨A', c', rfl, ho⟩, hJ, Below.refl _ _⟩
     ·intro a gh w5 hag hJ hd
      obtain ⟨x0, x1, x2, x3, x4, x5, x6, x7, x8, x9, x10, x11, x12, x13, x14, x15, x16, x17, x18, x19, x20, x21, x22, x23, x24, x25, x26, x27, x28, x29, x30, x31, x32, x33, x34, x35, x36, x37, x38, x39, x40, x41, x42, x43, x44, x45, x46, x47, x48, x49, x50, x51, x52, x53, x54, x55, x56, x57, x58, x59, x60, x61, x62, x63, x64, x65, x66, x67, x68, x69, x70, x71, x72, x73, x74, x75, x76, x77, x78, x79, x80, x81, rfl⟩ := act82sa hag.size hag.defers
      have ag0 : x0 = .int .i64 m := hag.kept 0 (by kernel_rfl)
      have ag1 : x1 = .slice A cs.length c := hag.kept 1 (by kernel_rfl)
      have ag2 : x2 = undef := hag.kept 2 (by kernel_rfl)
      have ag3 : x3 = undef := hag.kept 3 (by kernel_rfl)
      have ag4 : x4 = .slice none 0 0 := hag.kept 4 (by kernel_rfl)
      have ag5 : x5 = .bool false := hag.kept 5 (by kernel_rfl)
      have ag6 : x6 = .slice Ao d0.length co := hag.kept 6 (by kernel_rfl)
      have ag7 : x7 = .slice (some ⟨go, 0, none⟩) ps.length cp := hag.kept 7 (by kernel_rfl)
      have ag8 : x8 = .int .i64 k := hag.kept 8 (by kernel_rfl)
      have ag9 : x9 = .int .i64 t := hag.kept 9 (by kernel_rfl)
      have ag13 : x13 = .slice (some ⟨w.heap.size, 0, none⟩) 0 0 := hag.kept 13 (by kernel_rfl)
      have ag14 : x14 = .int .i64 m := hag.kept 14 (by kernel_rfl)
      have ag15 : x15 = .slice A cs.length c := hag.kept 15 (by kernel_rfl)
      have ag16 : x16 = .bool true := hag.kept 16 (by kernel_rfl)
      have ag17 : x17 = .bool false := hag.kept 17 (by kernel_rfl)
      have ag18 : x18 = .bool false := hag.kept 18 (by kernel_rfl)
      have ag19 : x19 = .int .i64 m := hag.kept 19 (by kernel_rfl)
      have ag20 : x20 = .slice A cs.length c := hag.kept 20 (by kernel_rfl)
      have ag21 : x21 = .slice A2 ol c2 := hag.kept 21 (by kernel_rfl)
      have ag22 : x22 = .int .i64 0 := hag.kept 22 (by kernel_rfl)
      have ag23 : x23 = .bool false := hag.kept 23 (by kernel_rfl)
      have ag24 : x24 = .bool false := hag.kept 24 (by kernel_rfl)
      have ag25 : x25 = undef := hag.kept 25 (by kernel_rfl)
      have ag26 : x26 = .int .i64 m := hag.kept 26 (by kernel_rfl)
      have ag27 : x27 = .slice A cs.length c := hag.kept 27 (by kernel_rfl)
      have ag28 : x28 = .slice (some ⟨go, 0, none⟩) ps.length cp := hag.kept 28 (by kernel_rfl)
      have ag81 : x81 = undef := hag.kept 81 (by kernel_rfl)
      clear hag
      subst ag0 ag1 ag2 ag3 ag4 ag5 ag6 ag7 ag8 ag9 ag13 ag14 ag15 ag16 ag17 ag18 ag19 ag20 ag21 ag22 ag23 ag24 ag25 ag26 ag27 ag28 ag81
      obtain ⟨A5, c5, e0, own5⟩ : ∃ A c, x10 = .slice A TL.length c ∧ w5.ownsRow wq.heap.size 79 2 (.slice A TL.length c) TL.length (TL.flatMap cCross) := hd 19 (by kernel_rfl) _ rfl
      have e2 : x68 = .bool true := hd 18 (by kernel_rfl) _ rfl
      subst e0 e2
      change wpList _ _ _ [_] _ _
      have hpw := hp5.below hJ
      have hownw := own_below hown5 hJ
      have hbw := bl_trans hb05 hJ
      have hzw2 : w4.heap.size ≤ w5.heap.size := by have := hJ.size; omega
      have hapw := Lib.hid (apart_new own5 hown5 (Nat.le_refl _))
      have ownTL := own_mono own5 (Nat.zero_le _)
      obtain ⟨N, hN⟩ : ∃ N, t.natAbs = N := ⟨_, rfl⟩
      rw [timesT, hN] at HSN
      have hcase : (t = -(N : Int) ∧ 0 < N) ∨ t = (N : Int) := by omega
      have hN40 : N ≤ 40 := by omega
      have hd00 : w5.ownsRow w.heap.size 79 2 (.slice Ao d0.length co) (d0 ++ manyL TL 0).length ((d0 ++ manyL TL 0).flatMap cCross) := by rw [show d0 ++ manyL TL 0 = d0 from List.append_nil d0]; exact hownw
      clear hJ hd own5 hown5 hp5 hb05 hN htb HBD hownw
      obtain ⟨T, hT⟩ : ∃ T, N / 2 = T := ⟨_, rfl⟩
      have hT2 : (N : Int) / 2 = (T : Int) := by omega
      rw [hT] at HSN
      have hT20 : T ≤ 20 := by omega
      have HT := Lib.hid hT
      clear hT
      have hw9 : IntKind.i64.wrap (-(N : Int)) = -(N : Int) := IntWalk.i64_in _ (by omega)
      have hw8 : IntKind.i64.wrap (N : Int) = (N : Int) := IntWalk.i64_in _ (by omega)
      have hN1 : ¬ (N : Int) < -(N : Int) := by omega
      rcases hcase with ⟨rfl, hNp⟩ | rfl
      all_goals
       (try have hN2 : -(N : Int) < (N : Int) := by omega)
       go_upto_region 11 with (fail)
       (try rw [hT2])
       clear hw8 hw9 hN1 hN40 hT2
       (try clear hN2 hNp)
       go_loopw [6, 12] (fun p b wr => ∃ a : Nat, a ≤ T ∧ b = .int .i64 ((T - a : Nat) : Int) ∧ wr.ownsRow w.heap.size 79 2 p (d0 ++ manyL TL a).length ((d0 ++ manyL TL a).flatMap cCross) ∧ OwRows 28 3 wr Sp (.slice (some ⟨go, 0, none⟩) ps.length cp) ps ∧ Hid (∀ b ∈ Sp, b ∉ p.ownBlock.toList) ∧ wr.ownsRow 0 79 2 (.slice A5 TL.length c5) TL.length (TL.flatMap cCross) ∧ Hid (Apart (.slice A5 TL.length c5) p) ∧ w4.heap.size ≤ wr.heap.size ∧ Below w.heap.size w wr) (fun _ b _ => (intOf b).toNat)
       case atStart => exact ⟨0, Nat.zero_le _, rfl, hd00, hpw, hap, ownTL, hapw, hzw2, hbw⟩
       case round =>
        obtain ⟨a, ha, rfl, hown, hp, hap, hTLo, hapT, hzw, hb⟩ := hrel
        clear hd00 hpw ownTL hapw hzw2 hbw
        have hml := HML.out a (by omega)
        have hz3 := hb.size
        obtain ⟨Ao, co, rfl, _, _⟩ := (RdS.of_own hown).form
        by_cases hlt2 : a < T
        ·have HS2 : Hid (d0 ++ manyL TL (a + 1) = (d0 ++ manyL TL a) ++ TL) := by show _ = _; rw [many_snoc, List.append_assoc]
         have hda : (d0 ++ manyL TL a).length ≤ 20000 := by rw [List.length_append]; omega
         generalize d0 ++ manyL TL a = da at *
         obtain ⟨r, hr⟩ : ∃ r, T - a = r + 1 := ⟨T - a - 1, by omega⟩
         have hr2 : T - (a + 1) = r := by omega
         rw [hr]
         have HR := Lib.hid (And.intro hr hr2)
         have hr0 : ((r + 1 : Nat) : Int) > 0 := by omega
         have hw7 : IntKind.i64.wrap (((r + 1 : Nat) : Int) - 1) = (r : Int) := by rw [IntWalk.i64_in _ (by omega)]; omega
         have hw6 : (r : Int) + 1 > 0 := by omega
         have hw5 : IntKind.i64.wrap (r : Int) = (r : Int) := IntWalk.i64_in _ (by omega)
         have HRb : Hid (r ≤ 20) := by show r ≤ 20; omega
         clear hr hr2
         go_wp2_with (at_builtin; refine wpList_appendB _ rfl (.tmp 78) (.tmp 79) _ rfl w.heap.size 79 iX _ 2 16 Tryz.underlying24 hiX hzX0 hzX1 hzX2 rfl (by omega) _ da.length (da.flatMap cCross) rfl hown _ TL.length (TL.flatMap cCross) rfl (RdS.of_own hTLo) (oneCell_flat cCross_one TL) (by simp [maxLen]; omega) (by omega) (by omega) ?_; intro v6 w6 own6 gr6 at6)
         have hch := Chg.of_grown gr6
         obtain ⟨hp6, hap6⟩ := rows_grow hp (Below.refl _ _) (fun b hb => by have := hSp b hb; omega) hap.out gr6 at6
         have hz6 := gr6.size
         have hb6 : Below w.heap.size w w6 := hb.trans (below_own hown gr6 (by omega))
         have HAP := Lib.hid hap6
         have hTL6 := Lib.hid (own_chg hTLo hch hapT.out)
         have hapT6 := Lib.hid (apart_grow hTLo hapT.out (Nat.le_refl _) at6)
         obtain ⟨A6, c6, rfl, _, _⟩ := (RdS.of_own own6).form
         clear gr6 at6 hch hap6 hTLo hapT
         go_wp2_with fail
         go_roundw
         case rel => exact ⟨a + 1, hlt2, (by first | exact int_eq (show (r : Int) = ((T - (a + 1) : Nat) : Int) from by rw [HR.out.2]) | exact int_eq (show wrap64 (r : Int) = ((T - (a + 1) : Nat) : Int) from by rw [HR.out.2]; exact IntWalk.wrap64_in _ (by have := HRb.out; omega))), by rw [HS2.out, List.length_append, List.flatMap_append]; exact own6, hp6, HAP.out, hTL6.out, hapT6.out, Nat.le_trans hzw hz6, hb6⟩
         case measure => first | exact Nat.lt_succ_self r | (rw [IntWalk.wrap64_in (r : Int) (by have := HRb.out; omega)]; exact Nat.lt_succ_self r)
        ·obtain rfl : a = T := by omega
         rw [← HSN.out] at hown hap ⊢
         rw [Nat.sub_self]
         go_wp2_with fail
         go_roundw
         case rel => exact ⟨k + 1, by omega, by go_num, by rw [HD1.out]; exact hown, hp, hap, hzw, hb⟩
         case measure => simp [intOf]; omega
    ·obtain rfl : k = ps.length := by omega
     rw [List.take_length] at hown ⊢
     go_wp2_with fail
     go_ret2
     rw [HU.out.1, HU.out.2, HUL.out]
     exact ⟨_, rfl, hown, hb⟩
  ·have HU := Lib.hid (unwB_f2 (m := m) (fun e => hI0 (HI.out.2 e)))
   have hI' : ((I : Int) != 0) = true := by rw [bne_iff_ne]; omega
   clear HI
   go_wp2_with fail
   go_ret2
   rw [HU.out.1, HU.out.2]
   exact ⟨_, rfl, hown3, hb03⟩
 ·have HU := Lib.hid (unwB_f1 hq.out)
  have hown1 := own_below hownA hb1
  have hb01 : Below w.heap.size w w1 := bl_trans hbA hb1
  go_wp2_with fail
  go_ret2
  rw [HU.out.1, HU.out.2]
  exact ⟨_, rfl, hown1, hb01⟩
open Go.RowKit
def untB (n : Int) (cs : List RCross) (pl : List RPl) : Bool := unwB n cs && withB n cs pl (unwV n cs)
def untC (n : Int) (cs : List RCross) (pl : List RPl) : List RCross := if untB n cs pl = true then cs ++ unwV n cs else cs
theorem unt_sz (n : Int) (cs : List RCross) (pl : List RPl) : szCompany (untC n cs pl) pl ≤ szCompany cs pl ∨ szCompany (untC n cs pl) pl ≤ 1000 := by
 unfold untC
 split
 ·rename_i h
  rw [untB, Bool.and_eq_true] at h
  have := with_sz n cs pl (unwV n cs)
  rwa [withC, if_pos h.2] at this
 ·exact .inl (Nat.le_refl _)
theorem unt_t {n : Int} {cs hl uc : List RCross} {pl : List RPl} {ub : Bool} (h : ub = (true && withB n cs pl hl) ∧ uc = if ub = true then cs ++ hl else cs) : withB n cs pl hl = ub ∧ withC n cs pl hl = uc := by
 obtain ⟨h1, h2⟩ := h
 rw [Bool.true_and] at h1
 exact ⟨h1.symm, by rw [h2, h1]; rfl⟩
theorem unt_f {n : Int} {cs hl uc : List RCross} {pl : List RPl} {ub : Bool} (h : ub = (false && withB n cs pl hl) ∧ uc = if ub = true then cs ++ hl else cs) : false = ub ∧ cs = uc := by
 obtain ⟨h1, h2⟩ := h
 rw [Bool.false_and] at h1
 exact ⟨h1.symm, by rw [h2, h1]; rfl⟩
set_option maxHeartbeats 8000000 in
set_option maxRecDepth 100000 in
theorem implUntwist_any (n : Int) (v1 v2 : Value) (cs : List RCross) (pl : List RPl) (w : World) (h : RdCompany w v1 v2 cs pl) (hsz : szCompany cs pl ≤ 1048576) :
  Calls Tryz.prog 61 #[.agg #[.int .i64 n, v1, v2]] w (RetCompany n (untB n cs pl) (untC n cs pl) pl w) := by
 obtain ⟨⟨A1, n1, rfl⟩, ⟨A2, n2, rfl⟩⟩ := h.forms
 have hU := fun W v hr => implUnwindAll_any n v cs W hr
 have HU : Hid (∀ (W : World) (v : Value), RdL cCross 2 W v cs → Calls Tryz.prog 83 #[.int .i64 n, v] W (RetUnw (unwB n cs) (unwV n cs) W)) := fun W v hr => hU W v hr
 clear hU
 have hll := unwV_len n cs
 have HG := Lib.hid (show untB n cs pl = (unwB n cs && withB n cs pl (unwV n cs)) ∧ untC n cs pl = if untB n cs pl = true then cs ++ unwV n cs else cs from ⟨rfl, rfl⟩)
 generalize untB n cs pl = ub at *
 generalize untC n cs pl = uc at *
 generalize unwB n cs = u at *
 generalize unwV n cs = hl at *
 cases u
 ·skip
  obtain ⟨rfl, rfl⟩ := unt_f HG.out
  clear HG
  go_enter Tryz.func61, Tryz.ntmps61
  go_wp2_with fail
  refine (HU.out _ _ (h.below (by (repeat' (with_reducible first | exact Below.refl _ _ | assumption | refine qS ?_ _ | refine qA ?_ _ | refine qD ?_ | refine qN ?_ _)))).1).mono ?_
  rintro e W1 ⟨vl, rfl, ownl, q⟩
  have hvl : RdL cCross 2 W1 vl hl := RdS.of_own ownl
  clear ownl
  obtain ⟨Al, cl, rfl, _, _⟩ := hvl.form
  have Lc : Loc W1 (w.heap.size) [.int .i64 n, .slice A1 cs.length n1, .slice A2 pl.length n2] := by have := ((Loc.new w #[.int .i64 n, .slice A1 cs.length n1, .slice A2 pl.length n2] 27).alloc _).below q; simpa using this
  have Lr : Loc W1 (w.heap.size + 1) [.int .i64 0, .slice none 0 0, .slice none 0 0] := by have := (Loc.new (w.alloc (.cells #[.int .i64 n, .slice A1 cs.length n1, .slice A2 pl.length n2] 27)) #[.int .i64 0, .slice none 0 0, .slice none 0 0] 27).below q; simpa using this
  have hb : Below w.heap.size w W1 := Below.trans (by (repeat' (with_reducible first | exact Below.refl _ _ | assumption | refine qS ?_ _ | refine qA ?_ _ | refine qD ?_ | refine qN ?_ _))) (q.mono (by simp <;> omega))
  have hz0 : w.heap.size + 1 + 1 ≤ W1.heap.size := by have := q.size; simp at this; omega
  clear q
  have c0 := (Lc 0 _ rfl).1
  have c1 := (Lc 1 _ rfl).1
  have c2 := (Lc 2 _ rfl).1
  go_wp2_with fail
  refine (companyCopied_any n _ _ cs pl _ (h.below hb) hsz).mono ?_
  rintro e W2 ⟨x1, x2, S, rfl, ow, f1, q⟩
  clear c0 c1 c2
  obtain ⟨⟨B1, k1, rfl⟩, ⟨B2, k2, rfl⟩⟩ := ow.rd.forms
  clear hvl hll
  have hzq : W1.heap.size ≤ W2.heap.size := by have := q.size; (try simp at this); omega
  replace Lc := Lc.below q
  replace Lr := Lr.below q
  replace hb : Below w.heap.size w W2 := hb.trans (q.mono hb.size)
  have hlow : W1.heap.size ≤ W1.heap.size := by first | exact Nat.le_refl _ | (simp; done) | (simp; omega) | omega
  have FK := Lib.hid (fresh_mono f1 hlow (Nat.le_refl _))
  have DK : Hid (∀ x ∈ S, x ∉ [w.heap.size, w.heap.size + 1]) := (fun x hx => by have := (FK.out.2 x hx).1; simp; omega)
  have OK := Lib.hid ow
  clear ow f1 hlow
  clear q
  have r0 := (Lr 0 _ rfl).1
  have rf0 := (Lr 0 _ rfl).2
  have r1 := (Lr 1 _ rfl).1
  have rf1 := (Lr 1 _ rfl).2
  have r2 := (Lr 2 _ rfl).1
  have rf2 := (Lr 2 _ rfl).2
  go_wp2_with fail
  refine bodyPost_ret (v := .tuple #[.agg #[.int .i64 n, .slice B1 cs.length k1, .slice B2 pl.length k2], .bool false]) (by simp [results, Tryz.results61, go_sem, *]) rfl (⟨_, _, S, rfl, ?_, ?_, ?_⟩)
  ·exact OK.out.chg (T := [w.heap.size + 1]) (by repeat' (with_reducible first | exact Chg.refl _ _ | refine qC ?_)) (fun x hx hx' => DK.out x hx (by simp at hx'; subst hx'; simp))
  ·exact fresh_mono FK.out (by omega) (by simp)
  ·exact Below.chg hb (S := [w.heap.size + 1]) (by repeat' (with_reducible first | exact Chg.refl _ _ | refine qC ?_)) hb.size (fun x hx => by simp at hx; omega)
 ·skip
  have HW : Hid (∀ (W : World) (vl v1 v2 : Value), RdCompany W v1 v2 cs pl → RdL cCross 2 W vl hl → Calls Tryz.prog 81 #[.agg #[.int .i64 n, v1, v2], vl] W (RetCompany n ub uc pl W)) := by
   obtain ⟨e1, e2⟩ := unt_t HG.out
   rw [← e1, ← e2]
   exact fun W vl v1 v2 h1 h2 => implWith_any n v1 v2 vl cs pl hl W h1 h2 (by omega) hsz
  clear HG
  go_enter Tryz.func61, Tryz.ntmps61
  go_wp2_with fail
  refine (HU.out _ _ (h.below (by (repeat' (with_reducible first | exact Below.refl _ _ | assumption | refine qS ?_ _ | refine qA ?_ _ | refine qD ?_ | refine qN ?_ _)))).1).mono ?_
  rintro e W1 ⟨vl, rfl, ownl, q⟩
  have hvl : RdL cCross 2 W1 vl hl := RdS.of_own ownl
  clear ownl
  obtain ⟨Al, cl, rfl, _, _⟩ := hvl.form
  have Lc : Loc W1 (w.heap.size) [.int .i64 n, .slice A1 cs.length n1, .slice A2 pl.length n2] := by have := ((Loc.new w #[.int .i64 n, .slice A1 cs.length n1, .slice A2 pl.length n2] 27).alloc _).below q; simpa using this
  have Lr : Loc W1 (w.heap.size + 1) [.int .i64 0, .slice none 0 0, .slice none 0 0] := by have := (Loc.new (w.alloc (.cells #[.int .i64 n, .slice A1 cs.length n1, .slice A2 pl.length n2] 27)) #[.int .i64 0, .slice none 0 0, .slice none 0 0] 27).below q; simpa using this
  have hb : Below w.heap.size w W1 := Below.trans (by (repeat' (with_reducible first | exact Below.refl _ _ | assumption | refine qS ?_ _ | refine qA ?_ _ | refine qD ?_ | refine qN ?_ _))) (q.mono (by simp <;> omega))
  have hz0 : w.heap.size + 1 + 1 ≤ W1.heap.size := by have := q.size; simp at this; omega
  clear q
  have c0 := (Lc 0 _ rfl).1
  have c1 := (Lc 1 _ rfl).1
  have c2 := (Lc 2 _ rfl).1
  go_wp2_with fail
  refine (HW.out _ _ _ _ (h.below hb) hvl).mono ?_
  rintro e W2 ⟨x1, x2, S, rfl, ow, f1, q⟩
  clear c0 c1 c2
  obtain ⟨⟨B1, k1, rfl⟩, ⟨B2, k2, rfl⟩⟩ := ow.rd.forms
  clear hvl
  have hzq : W1.heap.size ≤ W2.heap.size := by have := q.size; (try simp at this); omega
  replace Lc := Lc.below q
  replace Lr := Lr.below q
  replace hb : Below w.heap.size w W2 := hb.trans (q.mono hb.size)
  have hlow : W1.heap.size ≤ W1.heap.size := by first | exact Nat.le_refl _ | (simp; done) | (simp; omega) | omega
  have FK := Lib.hid (fresh_mono f1 hlow (Nat.le_refl _))
  have DK : Hid (∀ x ∈ S, x ∉ [w.heap.size, w.heap.size + 1]) := (fun x hx => by have := (FK.out.2 x hx).1; simp; omega)
  have OK := Lib.hid ow
  clear ow f1 hlow
  clear q
  have r0 := (Lr 0 _ rfl).1
  have rf0 := (Lr 0 _ rfl).2
  have r1 := (Lr 1 _ rfl).1
  have rf1 := (Lr 1 _ rfl).2
  have r2 := (Lr 2 _ rfl).1
  have rf2 := (Lr 2 _ rfl).2
  go_wp2_with fail
  refine bodyPost_ret (v := .tuple #[.agg #[.int .i64 n, .slice B1 uc.length k1, .slice B2 pl.length k2], .bool ub]) (by simp [results, Tryz.results61, go_sem, *]) rfl (⟨_, _, S, rfl, ?_, ?_, ?_⟩)
  ·exact OK.out.chg (T := [w.heap.size + 1]) (by repeat' (with_reducible first | exact Chg.refl _ _ | refine qC ?_)) (fun x hx hx' => DK.out x hx (by simp at hx'; subst hx'; simp))
  ·exact fresh_mono FK.out (by omega) (by simp)
  ·exact Below.chg hb (S := [w.heap.size + 1]) (by repeat' (with_reducible first | exact Chg.refl _ _ | refine qC ?_)) hb.size (fun x hx => by simp at hx; omega)
set_option maxHeartbeats 8000000 in
set_option maxRecDepth 100000 in
theorem specUntwist_any (n : Int) (v1 v2 : Value) (cs : List RCross) (pl : List RPl) (w : World) (h : RdCompany w v1 v2 cs pl) (hsz : szCompany cs pl ≤ 1048576) :
  Calls Tryz.prog 75 #[.agg #[.int .i64 n, v1, v2]] w (RetCompany n (untB n cs pl) (untC n cs pl) pl w) := by
 obtain ⟨⟨A1, n1, rfl⟩, ⟨A2, n2, rfl⟩⟩ := h.forms
 have hU := fun W v hr => specUnwindAll_any n v cs W hr
 have HU : Hid (∀ (W : World) (v : Value), RdL cCross 2 W v cs → Calls Tryz.prog 96 #[.int .i64 n, v] W (RetUnw (unwB n cs) (unwV n cs) W)) := fun W v hr => hU W v hr
 clear hU
 have hll := unwV_len n cs
 have HG := Lib.hid (show untB n cs pl = (unwB n cs && withB n cs pl (unwV n cs)) ∧ untC n cs pl = if untB n cs pl = true then cs ++ unwV n cs else cs from ⟨rfl, rfl⟩)
 generalize untB n cs pl = ub at *
 generalize untC n cs pl = uc at *
 generalize unwB n cs = u at *
 generalize unwV n cs = hl at *
 cases u
 ·skip
  obtain ⟨rfl, rfl⟩ := unt_f HG.out
  clear HG
  go_enter Tryz.func75, Tryz.ntmps75
  go_wp2_with fail
  refine (HU.out _ _ (h.below (by (repeat' (with_reducible first | exact Below.refl _ _ | assumption | refine qS ?_ _ | refine qA ?_ _ | refine qD ?_ | refine qN ?_ _)))).1).mono ?_
  rintro e W1 ⟨vl, rfl, ownl, q⟩
  have hvl : RdL cCross 2 W1 vl hl := RdS.of_own ownl
  clear ownl
  obtain ⟨Al, cl, rfl, _, _⟩ := hvl.form
  have Lc : Loc W1 (w.heap.size) [.int .i64 n, .slice A1 cs.length n1, .slice A2 pl.length n2] := by have := ((Loc.new w #[.int .i64 n, .slice A1 cs.length n1, .slice A2 pl.length n2] 27).alloc _).below q; simpa using this
  have Lr : Loc W1 (w.heap.size + 1) [.int .i64 0, .slice none 0 0, .slice none 0 0] := by have := (Loc.new (w.alloc (.cells #[.int .i64 n, .slice A1 cs.length n1, .slice A2 pl.length n2] 27)) #[.int .i64 0, .slice none 0 0, .slice none 0 0] 27).below q; simpa using this
  have hb : Below w.heap.size w W1 := Below.trans (by (repeat' (with_reducible first | exact Below.refl _ _ | assumption | refine qS ?_ _ | refine qA ?_ _ | refine qD ?_ | refine qN ?_ _))) (q.mono (by simp <;> omega))
  have hz0 : w.heap.size + 1 + 1 ≤ W1.heap.size := by have := q.size; simp at this; omega
  clear q
  have c0 := (Lc 0 _ rfl).1
  have c1 := (Lc 1 _ rfl).1
  have c2 := (Lc 2 _ rfl).1
  go_wp2_with fail
  refine (l37Copy_any n _ _ cs pl _ (h.below hb) hsz).mono ?_
  rintro e W2 ⟨x1, x2, S, rfl, ow, f1, q⟩
  clear c0 c1 c2
  obtain ⟨⟨B1, k1, rfl⟩, ⟨B2, k2, rfl⟩⟩ := ow.rd.forms
  clear hvl hll
  have hzq : W1.heap.size ≤ W2.heap.size := by have := q.size; (try simp at this); omega
  replace Lc := Lc.below q
  replace Lr := Lr.below q
  replace hb : Below w.heap.size w W2 := hb.trans (q.mono hb.size)
  have hlow : W1.heap.size ≤ W1.heap.size := by first | exact Nat.le_refl _ | (simp; done) | (simp; omega) | omega
  have FK := Lib.hid (fresh_mono f1 hlow (Nat.le_refl _))
  have DK : Hid (∀ x ∈ S, x ∉ [w.heap.size, w.heap.size + 1]) := (fun x hx => by have := (FK.out.2 x hx).1; simp; omega)
  have OK := Lib.hid ow
  clear ow f1 hlow
  clear q
  have r0 := (Lr 0 _ rfl).1
  have rf0 := (Lr 0 _ rfl).2
  have r1 := (Lr 1 _ rfl).1
  have rf1 := (Lr 1 _ rfl).2
  have r2 := (Lr 2 _ rfl).1
  have rf2 := (Lr 2 _ rfl).2
  go_wp2_with fail
  refine bodyPost_ret (v := .tuple #[.agg #[.int .i64 n, .slice B1 cs.length k1, .slice B2 pl.length k2], .bool false]) (by simp [results, Tryz.results75, go_sem, *]) rfl (⟨_, _, S, rfl, ?_, ?_, ?_⟩)
  ·exact OK.out.chg (T := [w.heap.size + 1]) (by repeat' (with_reducible first | exact Chg.refl _ _ | refine qC ?_)) (fun x hx hx' => DK.out x hx (by simp at hx'; subst hx'; simp))
  ·exact fresh_mono FK.out (by omega) (by simp)
  ·exact Below.chg hb (S := [w.heap.size + 1]) (by repeat' (with_reducible first | exact Chg.refl _ _ | refine qC ?_)) hb.size (fun x hx => by simp at hx; omega)
 ·skip
  have HW : Hid (∀ (W : World) (vl v1 v2 : Value), RdCompany W v1 v2 cs pl → RdL cCross 2 W vl hl → Calls Tryz.prog 95 #[.agg #[.int .i64 n, v1, v2], vl] W (RetCompany n ub uc pl W)) := by
   obtain ⟨e1, e2⟩ := unt_t HG.out
   rw [← e1, ← e2]
   exact fun W vl v1 v2 h1 h2 => l37Add_any n v1 v2 vl cs pl hl W h1 h2 (by omega) hsz
  clear HG
  go_enter Tryz.func75, Tryz.ntmps75
  go_wp2_with fail
  refine (HU.out _ _ (h.below (by (repeat' (with_reducible first | exact Below.refl _ _ | assumption | refine qS ?_ _ | refine qA ?_ _ | refine qD ?_ | refine qN ?_ _)))).1).mono ?_
  rintro e W1 ⟨vl, rfl, ownl, q⟩
  have hvl : RdL cCross 2 W1 vl hl := RdS.of_own ownl
  clear ownl
  obtain ⟨Al, cl, rfl, _, _⟩ := hvl.form
  have Lc : Loc W1 (w.heap.size) [.int .i64 n, .slice A1 cs.length n1, .slice A2 pl.length n2] := by have := ((Loc.new w #[.int .i64 n, .slice A1 cs.length n1, .slice A2 pl.length n2] 27).alloc _).below q; simpa using this
  have Lr : Loc W1 (w.heap.size + 1) [.int .i64 0, .slice none 0 0, .slice none 0 0] := by have := (Loc.new (w.alloc (.cells #[.int .i64 n, .slice A1 cs.length n1, .slice A2 pl.length n2] 27)) #[.int .i64 0, .slice none 0 0, .slice none 0 0] 27).below q; simpa using this
  have hb : Below w.heap.size w W1 := Below.trans (by (repeat' (with_reducible first | exact Below.refl _ _ | assumption | refine qS ?_ _ | refine qA ?_ _ | refine qD ?_ | refine qN ?_ _))) (q.mono (by simp <;> omega))
  have hz0 : w.heap.size + 1 + 1 ≤ W1.heap.size := by have := q.size; simp at this; omega
  clear q
  have c0 := (Lc 0 _ rfl).1
  have c1 := (Lc 1 _ rfl).1
  have c2 := (Lc 2 _ rfl).1
  go_wp2_with fail
  refine (HW.out _ _ _ _ (h.below hb) hvl).mono ?_
  rintro e W2 ⟨x1, x2, S, rfl, ow, f1, q⟩
  clear c0 c1 c2
  obtain ⟨⟨B1, k1, rfl⟩, ⟨B2, k2, rfl⟩⟩ := ow.rd.forms
  clear hvl
  have hzq : W1.heap.size ≤ W2.heap.size := by have := q.size; (try simp at this); omega
  replace Lc := Lc.below q
  replace Lr := Lr.below q
  replace hb : Below w.heap.size w W2 := hb.trans (q.mono hb.size)
  have hlow : W1.heap.size ≤ W1.heap.size := by first | exact Nat.le_refl _ | (simp; done) | (simp; omega) | omega
  have FK := Lib.hid (fresh_mono f1 hlow (Nat.le_refl _))
  have DK : Hid (∀ x ∈ S, x ∉ [w.heap.size, w.heap.size + 1]) := (fun x hx => by have := (FK.out.2 x hx).1; simp; omega)
  have OK := Lib.hid ow
  clear ow f1 hlow
  clear q
  go_upto_region 5 with (fail)
  replace Lc : Loc (W2.alloc (.cells #[.int .i64 n, .slice B1 uc.length k1, .slice B2 pl.length k2] 27)) (w.heap.size) [.int .i64 n, .slice A1 cs.length n1, .slice A2 pl.length n2] := Lc.alloc _
  replace Lr : Loc (W2.alloc (.cells #[.int .i64 n, .slice B1 uc.length k1, .slice B2 pl.length k2] 27)) (w.heap.size + 1) [.int .i64 0, .slice none 0 0, .slice none 0 0] := Lr.alloc _
  obtain ⟨go, hgo⟩ : ∃ g, W2.heap.size = g := ⟨_, rfl⟩
  have Lo : Loc (W2.alloc (.cells #[.int .i64 n, .slice B1 uc.length k1, .slice B2 pl.length k2] 27)) W2.heap.size [.int .i64 n, .slice B1 uc.length k1, .slice B2 pl.length k2] := Loc.new W2 #[.int .i64 n, .slice B1 uc.length k1, .slice B2 pl.length k2] 27
  rw [hgo] at Lo
  replace OK := Lib.hid (OK.out.below (w' := (W2.alloc (.cells #[.int .i64 n, .slice B1 uc.length k1, .slice B2 pl.length k2] 27))) ((Below.refl _ _).alloc (Nat.le_refl _) _))
  replace DK : Hid (∀ x ∈ S, x ∉ [w.heap.size, w.heap.size + 1, go]) := (fun x hx => by have := DK.out x hx; have := (FK.out.2 x hx).2; simp at *; omega)
  replace FK := Lib.hid (fresh_mono (w' := (W2.alloc (.cells #[.int .i64 n, .slice B1 uc.length k1, .slice B2 pl.length k2] 27))) FK.out (Nat.le_refl _) (by simp))
  replace hb : Below w.heap.size w (W2.alloc (.cells #[.int .i64 n, .slice B1 uc.length k1, .slice B2 pl.length k2] 27)) := hb.alloc hb.size _
  have hlto : go < (W2.alloc (.cells #[.int .i64 n, .slice B1 uc.length k1, .slice B2 pl.length k2] 27)).heap.size := by simp; omega
  have hne_c_o : w.heap.size < go := by omega
  have hne_r_o : w.heap.size + 1 < go := by omega
  generalize W2.alloc (.cells #[.int .i64 n, .slice B1 uc.length k1, .slice B2 pl.length k2] 27) = W3 at *
  rw [hgo]
  clear hgo
  have o0 := (Lo 0 _ rfl).1
  have o1 := (Lo 1 _ rfl).1
  have o2 := (Lo 2 _ rfl).1
  have r0 := (Lr 0 _ rfl).1
  have rf0 := (Lr 0 _ rfl).2
  have r1 := (Lr 1 _ rfl).1
  have rf1 := (Lr 1 _ rfl).2
  have r2 := (Lr 2 _ rfl).1
  have rf2 := (Lr 2 _ rfl).2
  go_wp2_with fail
  refine bodyPost_ret (v := .tuple #[.agg #[.int .i64 n, .slice B1 uc.length k1, .slice B2 pl.length k2], .bool ub]) (by simp [results, Tryz.results75, go_sem, *]) rfl (⟨_, _, S, rfl, ?_, ?_, ?_⟩)
  ·exact OK.out.chg (T := [w.heap.size + 1]) (by repeat' (with_reducible first | exact Chg.refl _ _ | refine qC ?_)) (fun x hx hx' => DK.out x hx (by simp at hx'; subst hx'; simp))
  ·exact fresh_mono FK.out (by omega) (by simp)
  ·exact Below.chg hb (S := [w.heap.size + 1]) (by repeat' (with_reducible first | exact Chg.refl _ _ | refine qC ?_)) hb.size (fun x hx => by simp at hx; omega)
open Go.RowKit
def putC (n : Int) (cs : List RCross) (pl : List RPl) : List RCross := tidyC n (untC n (goC n cs pl) pl) pl
def putT (t : Th) : Th × Bool := becF t ⟨t.n, t.m, putC t.n t.cs t.pl, t.pl, t.ds⟩ (goB t.n t.cs t.pl && untB t.n (goC t.n t.cs t.pl) t.pl)
theorem with_company {n : Int} {cs l : List RCross} {pl : List RPl} (h : withB n cs pl l = true) : companyB n (withC n cs pl l) pl = true := by
 rw [withC, if_pos h]
 rw [withB, Bool.and_eq_true] at h
 exact h.2
theorem unt_company {n : Int} {cs : List RCross} {pl : List RPl} (h : untB n cs pl = true) : companyB n (untC n cs pl) pl = true := by
 rw [untC, if_pos h]
 rw [untB, Bool.and_eq_true] at h
 have := with_company h.2
 rwa [withC, if_pos h.2] at this
theorem tidy_company {n : Int} {cs : List RCross} {pl : List RPl} (h : companyB n cs pl = true) : companyB n (tidyC n cs pl) pl = true := by
 rw [tidyC, if_pos h]
 obtain ⟨h1, h2⟩ := company_n h
 obtain ⟨hn, _, _⟩ := crosses_len h1
 obtain ⟨m, rfl⟩ := Int.eq_ofNat_of_zero_le (show 0 ≤ n by omega)
 rw [companyB, Bool.and_eq_true]
 refine ⟨?_, h2⟩
 unfold redL
 rw [if_pos h1]
 exact redF_valid h1
theorem put_ok {n m : Int} {cs : List RCross} {pl : List RPl} {ds : List Int} (h : theatreB n m cs pl ds = true) (h2 : untB n (goC n cs pl) pl = true) : theatreB n m (putC n cs pl) pl ds = true := by
 unfold theatreB at h ⊢
 rw [Bool.and_eq_true, Bool.and_eq_true] at h ⊢
 exact ⟨⟨tidy_company (unt_company h2), h.1.2⟩, h.2⟩
set_option maxHeartbeats 8000000 in
set_option maxRecDepth 100000 in
theorem implPutInOrder_any (n m : Int) (v1 v2 v3 : Value) (cs : List RCross) (pl : List RPl) (ds : List Int) (w : World) (h : RdTheatre w v1 v2 v3 cs pl ds) (hsz : szTheatre cs pl ds ≤ 1048576) :
  Calls Tryz.prog 37 #[.agg #[.int .i64 n, v1, v2, v3, .int .i64 m]] w (RetTh w.heap.size (putT ⟨n, m, cs, pl, ds⟩) w) := by
 obtain ⟨⟨A1, n1, rfl⟩, ⟨A2, n2, rfl⟩, ⟨A3, n3, rfl⟩⟩ := h.forms
 have hszc : szCompany cs pl ≤ 1048576 := by unfold szTheatre at hsz; omega
 have hs1 := go_sz n cs pl
 have hs2 := unt_sz n (goC n cs pl) pl
 unfold putT
 have HG : Hid (∀ W v1 v2, RdCompany W v1 v2 cs pl → Calls Tryz.prog 60 #[.agg #[.int .i64 n, v1, v2]] W (RetCompany n (goB n cs pl) (goC n cs pl) pl W)) := fun W v1 v2 hr => implGoHome_any n v1 v2 cs pl W hr (by omega)
 have HU : Hid (∀ W v1 v2, RdCompany W v1 v2 (goC n cs pl) pl → Calls Tryz.prog 61 #[.agg #[.int .i64 n, v1, v2]] W (RetCompany n (untB n (goC n cs pl) pl) (untC n (goC n cs pl) pl) pl W)) := fun W v1 v2 hr => implUntwist_any n v1 v2 (goC n cs pl) pl W hr (by omega)
 have HT : Hid (∀ W v1 v2, RdCompany W v1 v2 (untC n (goC n cs pl) pl) pl → Calls Tryz.prog 62 #[.agg #[.int .i64 n, v1, v2]] W (ToCompany n (putC n cs pl) pl W)) := fun W v1 v2 hr => implTidy_any n v1 v2 (untC n (goC n cs pl) pl) pl W hr (by omega)
 have HOK : Hid (theatreB n m cs pl ds = true → untB n (goC n cs pl) pl = true → theatreB n m (putC n cs pl) pl ds = true) := fun h h2 => put_ok h h2
 clear hs1 hs2
 generalize putC n cs pl = c3 at *
 generalize untC n (goC n cs pl) pl = c2 at *
 generalize untB n (goC n cs pl) pl = b2 at *
 generalize goC n cs pl = c1 at *
 generalize goB n cs pl = b1 at *
 obtain ⟨⟨⟨rn, rm, rcs, rpl, rds⟩, rb⟩, hres⟩ : ∃ res, becF ⟨n, m, cs, pl, ds⟩ ⟨n, m, c3, pl, ds⟩ (b1 && b2) = res := ⟨_, rfl⟩
 rw [hres]
 change Calls _ _ _ _ (RetT w.heap.size rn rm rb rcs rpl rds w)
 have Hres := Lib.hid hres
 clear hres
 go_enter Tryz.func37, Tryz.ntmps37
 go_wp2_with fail
 refine (theatreCopied_any n m _ _ _ cs pl ds _ (h.below (by (repeat' (with_reducible first | exact Below.refl _ _ | assumption | refine qS ?_ _ | refine qA ?_ _ | refine qD ?_ | refine qN ?_ _)))) hsz).mono ?_
 rintro e W1 ⟨x1, x2, x3, S, rfl, ow, f1, q⟩
 obtain ⟨⟨B1, k1, rfl⟩, ⟨B2, k2, rfl⟩, ⟨B3, k3, rfl⟩⟩ := ow.rd.forms
 have Lc : Loc W1 (w.heap.size) [.int .i64 n, .slice A1 cs.length n1, .slice A2 pl.length n2, .slice A3 ds.length n3, .int .i64 m] := by have := ((Loc.new w #[.int .i64 n, .slice A1 cs.length n1, .slice A2 pl.length n2, .slice A3 ds.length n3, .int .i64 m] 30).alloc _).below q; simpa using this
 have Lr : Loc W1 (w.heap.size + 1) [.int .i64 0, .slice none 0 0, .slice none 0 0, .slice none 0 0, .int .i64 0] := by have := (Loc.new (w.alloc (.cells #[.int .i64 n, .slice A1 cs.length n1, .slice A2 pl.length n2, .slice A3 ds.length n3, .int .i64 m] 30)) #[.int .i64 0, .slice none 0 0, .slice none 0 0, .slice none 0 0, .int .i64 0] 30).below q; simpa using this
 have hb : Below w.heap.size w W1 := Below.trans (by (repeat' (with_reducible first | exact Below.refl _ _ | assumption | refine qS ?_ _ | refine qA ?_ _ | refine qD ?_ | refine qN ?_ _))) (q.mono (by simp <;> omega))
 have hz0 : w.heap.size + 1 + 1 ≤ W1.heap.size := by have := q.size; simp at this; omega
 have hlow : w.heap.size + 1 + 1 ≤ (((w.alloc (.cells #[.int .i64 n, .slice A1 cs.length n1, .slice A2 pl.length n2, .slice A3 ds.length n3, .int .i64 m] 30)).alloc (.cells #[.int .i64 0, .slice none 0 0, .slice none 0 0, .slice none 0 0, .int .i64 0] 30))).heap.size := by first | exact Nat.le_refl _ | (simp; done) | (simp; omega) | omega
 have FK := Lib.hid (fresh_mono f1 hlow (Nat.le_refl _))
 have DK : Hid (∀ x ∈ S, x ∉ [w.heap.size, w.heap.size + 1]) := (fun x hx => by have := (FK.out.2 x hx).1; simp; omega)
 have OK := Lib.hid ow
 clear ow f1 hlow
 clear q
 go_upto_region 2 with (fail)
 replace Lc : Loc (W1.alloc (.cells #[.int .i64 n, .slice B1 cs.length k1, .slice B2 pl.length k2, .slice B3 ds.length k3, .int .i64 m] 30)) (w.heap.size) [.int .i64 n, .slice A1 cs.length n1, .slice A2 pl.length n2, .slice A3 ds.length n3, .int .i64 m] := Lc.alloc _
 replace Lr : Loc (W1.alloc (.cells #[.int .i64 n, .slice B1 cs.length k1, .slice B2 pl.length k2, .slice B3 ds.length k3, .int .i64 m] 30)) (w.heap.size + 1) [.int .i64 0, .slice none 0 0, .slice none 0 0, .slice none 0 0, .int .i64 0] := Lr.alloc _
 obtain ⟨go, hgo⟩ : ∃ g, W1.heap.size = g := ⟨_, rfl⟩
 have Lo : Loc (W1.alloc (.cells #[.int .i64 n, .slice B1 cs.length k1, .slice B2 pl.length k2, .slice B3 ds.length k3, .int .i64 m] 30)) W1.heap.size [.int .i64 n, .slice B1 cs.length k1, .slice B2 pl.length k2, .slice B3 ds.length k3, .int .i64 m] := Loc.new W1 #[.int .i64 n, .slice B1 cs.length k1, .slice B2 pl.length k2, .slice B3 ds.length k3, .int .i64 m] 30
 rw [hgo] at Lo
 replace OK := Lib.hid (OK.out.below (w' := (W1.alloc (.cells #[.int .i64 n, .slice B1 cs.length k1, .slice B2 pl.length k2, .slice B3 ds.length k3, .int .i64 m] 30))) ((Below.refl _ _).alloc (Nat.le_refl _) _))
 replace DK : Hid (∀ x ∈ S, x ∉ [w.heap.size, w.heap.size + 1, go]) := (fun x hx => by have := DK.out x hx; have := (FK.out.2 x hx).2; simp at *; omega)
 replace FK := Lib.hid (fresh_mono (w' := (W1.alloc (.cells #[.int .i64 n, .slice B1 cs.length k1, .slice B2 pl.length k2, .slice B3 ds.length k3, .int .i64 m] 30))) FK.out (Nat.le_refl _) (by simp))
 replace hb : Below w.heap.size w (W1.alloc (.cells #[.int .i64 n, .slice B1 cs.length k1, .slice B2 pl.length k2, .slice B3 ds.length k3, .int .i64 m] 30)) := hb.alloc hb.size _
 have hlto : go < (W1.alloc (.cells #[.int .i64 n, .slice B1 cs.length k1, .slice B2 pl.length k2, .slice B3 ds.length k3, .int .i64 m] 30)).heap.size := by simp; omega
 have hne_c_o : w.heap.size < go := by omega
 have hne_r_o : w.heap.size + 1 < go := by omega
 generalize W1.alloc (.cells #[.int .i64 n, .slice B1 cs.length k1, .slice B2 pl.length k2, .slice B3 ds.length k3, .int .i64 m] 30) = W2 at *
 rw [hgo]
 clear hgo
 have o0 := (Lo 0 _ rfl).1
 have o1 := (Lo 1 _ rfl).1
 have o2 := (Lo 2 _ rfl).1
 go_wp2_with fail
 refine (HG.out _ _ _ (OK.out.rd.1)).mono ?_
 rintro e W3 ⟨x4, x5, SX, rfl, oX, fX, q⟩
 clear o0 o1 o2
 obtain ⟨⟨C1, l1, rfl⟩, ⟨C2, l2, rfl⟩⟩ := oX.rd.forms
 have hzq : W2.heap.size ≤ W3.heap.size := by have := q.size; (try simp at this); omega
 replace Lc := Lc.below q
 replace Lr := Lr.below q
 replace Lo := Lo.below q
 replace OK := Lib.hid (OK.out.below q)
 replace FK := Lib.hid (fresh_mono (w' := W3) FK.out (Nat.le_refl _) hzq)
 replace hb : Below w.heap.size w W3 := hb.trans (q.mono hb.size)
 have hlow : W2.heap.size ≤ W2.heap.size := by first | exact Nat.le_refl _ | (simp; done) | (simp; omega) | omega
 have FX := Lib.hid (fresh_mono fX hlow (Nat.le_refl _))
 have DX : Hid (∀ x ∈ SX, x ∉ [w.heap.size, w.heap.size + 1, go]) := (fun x hx => by have := (FX.out.2 x hx).1; simp; omega)
 have OX := Lib.hid oX
 clear oX fX hlow
 clear q
 go_upto_region 3 with (fail)
 replace Lc : Loc (W3.alloc (.cells #[.int .i64 n, .slice C1 c1.length l1, .slice C2 pl.length l2] 27)) (w.heap.size) [.int .i64 n, .slice A1 cs.length n1, .slice A2 pl.length n2, .slice A3 ds.length n3, .int .i64 m] := Lc.alloc _
 replace Lr : Loc (W3.alloc (.cells #[.int .i64 n, .slice C1 c1.length l1, .slice C2 pl.length l2] 27)) (w.heap.size + 1) [.int .i64 0, .slice none 0 0, .slice none 0 0, .slice none 0 0, .int .i64 0] := Lr.alloc _
 replace Lo : Loc (W3.alloc (.cells #[.int .i64 n, .slice C1 c1.length l1, .slice C2 pl.length l2] 27)) (go) [.int .i64 n, .slice B1 cs.length k1, .slice B2 pl.length k2, .slice B3 ds.length k3, .int .i64 m] := Lo.alloc _
 obtain ⟨gp, hgp⟩ : ∃ g, W3.heap.size = g := ⟨_, rfl⟩
 have Lp : Loc (W3.alloc (.cells #[.int .i64 n, .slice C1 c1.length l1, .slice C2 pl.length l2] 27)) W3.heap.size [.int .i64 n, .slice C1 c1.length l1, .slice C2 pl.length l2] := Loc.new W3 #[.int .i64 n, .slice C1 c1.length l1, .slice C2 pl.length l2] 27
 rw [hgp] at Lp
 replace OK := Lib.hid (OK.out.below (w' := (W3.alloc (.cells #[.int .i64 n, .slice C1 c1.length l1, .slice C2 pl.length l2] 27))) ((Below.refl _ _).alloc (Nat.le_refl _) _))
 replace OX := Lib.hid (OX.out.below (w' := (W3.alloc (.cells #[.int .i64 n, .slice C1 c1.length l1, .slice C2 pl.length l2] 27))) ((Below.refl _ _).alloc (Nat.le_refl _) _))
 replace DK : Hid (∀ x ∈ S, x ∉ [w.heap.size, w.heap.size + 1, go, gp]) := (fun x hx => by have := DK.out x hx; have := (FK.out.2 x hx).2; simp at *; omega)
 replace FK := Lib.hid (fresh_mono (w' := (W3.alloc (.cells #[.int .i64 n, .slice C1 c1.length l1, .slice C2 pl.length l2] 27))) FK.out (Nat.le_refl _) (by simp))
 replace DX : Hid (∀ x ∈ SX, x ∉ [w.heap.size, w.heap.size + 1, go, gp]) := (fun x hx => by have := DX.out x hx; have := (FX.out.2 x hx).2; simp at *; omega)
 replace FX := Lib.hid (fresh_mono (w' := (W3.alloc (.cells #[.int .i64 n, .slice C1 c1.length l1, .slice C2 pl.length l2] 27))) FX.out (Nat.le_refl _) (by simp))
 replace hb : Below w.heap.size w (W3.alloc (.cells #[.int .i64 n, .slice C1 c1.length l1, .slice C2 pl.length l2] 27)) := hb.alloc hb.size _
 have hltp : gp < (W3.alloc (.cells #[.int .i64 n, .slice C1 c1.length l1, .slice C2 pl.length l2] 27)).heap.size := by simp; omega
 have hne_c_p : w.heap.size < gp := by omega
 have hne_r_p : w.heap.size + 1 < gp := by omega
 have hne_o_p : go < gp := by omega
 generalize W3.alloc (.cells #[.int .i64 n, .slice C1 c1.length l1, .slice C2 pl.length l2] 27) = W4 at *
 rw [hgp]
 clear hgp
 have p0 := (Lp 0 _ rfl).1
 have p1 := (Lp 1 _ rfl).1
 have p2 := (Lp 2 _ rfl).1
 go_wp2_with fail
 refine (HU.out _ _ _ (OX.out.rd)).mono ?_
 rintro e W5 ⟨y4, y5, SY, rfl, oY, fY, q⟩
 clear p0 p1 p2
 obtain ⟨⟨D1, j1, rfl⟩, ⟨D2, j2, rfl⟩⟩ := oY.rd.forms
 have hzq : W4.heap.size ≤ W5.heap.size := by have := q.size; (try simp at this); omega
 replace Lc := Lc.below q
 replace Lr := Lr.below q
 replace Lo := Lo.below q
 replace Lp := Lp.below q
 replace OK := Lib.hid (OK.out.below q)
 replace FK := Lib.hid (fresh_mono (w' := W5) FK.out (Nat.le_refl _) hzq)
 replace OX := Lib.hid (OX.out.below q)
 replace FX := Lib.hid (fresh_mono (w' := W5) FX.out (Nat.le_refl _) hzq)
 replace hb : Below w.heap.size w W5 := hb.trans (q.mono hb.size)
 have hlow : W4.heap.size ≤ W4.heap.size := by first | exact Nat.le_refl _ | (simp; done) | (simp; omega) | omega
 have FY := Lib.hid (fresh_mono fY hlow (Nat.le_refl _))
 have DY : Hid (∀ x ∈ SY, x ∉ [w.heap.size, w.heap.size + 1, go, gp]) := (fun x hx => by have := (FY.out.2 x hx).1; simp; omega)
 have OY := Lib.hid oY
 clear oY fY hlow
 clear q
 clear OX FX DX
 go_upto_region 4 with (fail)
 replace Lc : Loc (W5.alloc (.cells #[.int .i64 n, .slice D1 c2.length j1, .slice D2 pl.length j2] 27)) (w.heap.size) [.int .i64 n, .slice A1 cs.length n1, .slice A2 pl.length n2, .slice A3 ds.length n3, .int .i64 m] := Lc.alloc _
 replace Lr : Loc (W5.alloc (.cells #[.int .i64 n, .slice D1 c2.length j1, .slice D2 pl.length j2] 27)) (w.heap.size + 1) [.int .i64 0, .slice none 0 0, .slice none 0 0, .slice none 0 0, .int .i64 0] := Lr.alloc _
 replace Lo : Loc (W5.alloc (.cells #[.int .i64 n, .slice D1 c2.length j1, .slice D2 pl.length j2] 27)) (go) [.int .i64 n, .slice B1 cs.length k1, .slice B2 pl.length k2, .slice B3 ds.length k3, .int .i64 m] := Lo.alloc _
 replace Lp : Loc (W5.alloc (.cells #[.int .i64 n, .slice D1 c2.length j1, .slice D2 pl.length j2] 27)) (gp) [.int .i64 n, .slice C1 c1.length l1, .slice C2 pl.length l2] := Lp.alloc _
 obtain ⟨gq, hgq⟩ : ∃ g, W5.heap.size = g := ⟨_, rfl⟩
 have Lq : Loc (W5.alloc (.cells #[.int .i64 n, .slice D1 c2.length j1, .slice D2 pl.length j2] 27)) W5.heap.size [.int .i64 n, .slice D1 c2.length j1, .slice D2 pl.length j2] := Loc.new W5 #[.int .i64 n, .slice D1 c2.length j1, .slice D2 pl.length j2] 27
 rw [hgq] at Lq
 replace OK := Lib.hid (OK.out.below (w' := (W5.alloc (.cells #[.int .i64 n, .slice D1 c2.length j1, .slice D2 pl.length j2] 27))) ((Below.refl _ _).alloc (Nat.le_refl _) _))
 replace OY := Lib.hid (OY.out.below (w' := (W5.alloc (.cells #[.int .i64 n, .slice D1 c2.length j1, .slice D2 pl.length j2] 27))) ((Below.refl _ _).alloc (Nat.le_refl _) _))
 replace DK : Hid (∀ x ∈ S, x ∉ [w.heap.size, w.heap.size + 1, go, gp, gq]) := (fun x hx => by have := DK.out x hx; have := (FK.out.2 x hx).2; simp at *; omega)
 replace FK := Lib.hid (fresh_mono (w' := (W5.alloc (.cells #[.int .i64 n, .slice D1 c2.length j1, .slice D2 pl.length j2] 27))) FK.out (Nat.le_refl _) (by simp))
 replace DY : Hid (∀ x ∈ SY, x ∉ [w.heap.size, w.heap.size + 1, go, gp, gq]) := (fun x hx => by have := DY.out x hx; have := (FY.out.2 x hx).2; simp at *; omega)
 replace FY := Lib.hid (fresh_mono (w' := (W5.alloc (.cells #[.int .i64 n, .slice D1 c2.length j1, .slice D2 pl.length j2] 27))) FY.out (Nat.le_refl _) (by simp))
 replace hb : Below w.heap.size w (W5.alloc (.cells #[.int .i64 n, .slice D1 c2.length j1, .slice D2 pl.length j2] 27)) := hb.alloc hb.size _
 have hltq : gq < (W5.alloc (.cells #[.int .i64 n, .slice D1 c2.length j1, .slice D2 pl.length j2] 27)).heap.size := by simp; omega
 have hne_c_q : w.heap.size < gq := by omega
 have hne_r_q : w.heap.size + 1 < gq := by omega
 have hne_o_q : go < gq := by omega
 have hne_p_q : gp < gq := by omega
 generalize W5.alloc (.cells #[.int .i64 n, .slice D1 c2.length j1, .slice D2 pl.length j2] 27) = W6 at *
 rw [hgq]
 clear hgq
 have q0 := (Lq 0 _ rfl).1
 have q1 := (Lq 1 _ rfl).1
 have q2 := (Lq 2 _ rfl).1
 have hU : ∀ x ∈ S, x < W6.heap.size := fun x hx => (FK.out.2 x hx).2
 go_wp2_with fail
 refine (HT.out _ _ _ (OY.out.rd)).mono ?_
 rintro e W7 ⟨z4, z5, SZ, rfl, oZ, fZ, q⟩
 clear q0 q1 q2
 obtain ⟨⟨E1, i1, rfl⟩, ⟨E2, i2, rfl⟩⟩ := oZ.rd.forms
 have hzq : W6.heap.size ≤ W7.heap.size := by have := q.size; (try simp at this); omega
 replace Lc := Lc.below q
 replace Lr := Lr.below q
 replace Lo := Lo.below q
 replace Lp := Lp.below q
 replace Lq := Lq.below q
 replace OK := Lib.hid (OK.out.below q)
 replace FK := Lib.hid (fresh_mono (w' := W7) FK.out (Nat.le_refl _) hzq)
 replace OY := Lib.hid (OY.out.below q)
 replace FY := Lib.hid (fresh_mono (w' := W7) FY.out (Nat.le_refl _) hzq)
 replace hb : Below w.heap.size w W7 := hb.trans (q.mono hb.size)
 have hlow : W6.heap.size ≤ W6.heap.size := by first | exact Nat.le_refl _ | (simp; done) | (simp; omega) | omega
 have FZ := Lib.hid (fresh_mono fZ hlow (Nat.le_refl _))
 have DZ : Hid (∀ x ∈ SZ, x ∉ [w.heap.size, w.heap.size + 1, go, gp, gq]) := (fun x hx => by have := (FZ.out.2 x hx).1; simp; omega)
 have OZ := Lib.hid oZ
 clear oZ fZ hlow
 clear q
 clear OY FY DY
 have HJZ : Hid (∀ x ∈ SZ, x ∉ S) := (fun x hx hx' => by have := (FZ.out.2 x hx).1; have := hU x hx'; omega)
 clear hU
 obtain ⟨SK1, SK3, eK, oK, pK⟩ := OK.out
 have FKx := FK.out
 have DKx := DK.out
 rw [eK] at FKx DKx
 have OK1 := Lib.hid oK
 have OK3 := Lib.hid pK
 have FK1 := Lib.hid (fresh_left FKx)
 have FK3 := Lib.hid (fresh_right FKx)
 have DK1 : Hid (∀ x ∈ SK1, x ∉ [w.heap.size, w.heap.size + 1, go, gp, gq]) := (fun x hx => DKx x (List.mem_append_left _ hx))
 have DK3 : Hid (∀ x ∈ SK3, x ∉ [w.heap.size, w.heap.size + 1, go, gp, gq]) := (fun x hx => DKx x (List.mem_append_right _ hx))
 have JK : Hid (∀ x ∈ SK1, x ∉ SK3) := (nodup2 FKx.1).2.2.1
 clear OK FK DK FKx DKx oK pK
 clear OK1 FK1 DK1
 have o0 := (Lo 0 _ rfl).1
 have of0 := (Lo 0 _ rfl).2
 have o1 := (Lo 1 _ rfl).1
 have of1 := (Lo 1 _ rfl).2
 have o2 := (Lo 2 _ rfl).1
 have of2 := (Lo 2 _ rfl).2
 have o3 := (Lo 3 _ rfl).1
 have of3 := (Lo 3 _ rfl).2
 have o4 := (Lo 4 _ rfl).1
 have of4 := (Lo 4 _ rfl).2
 go_upto_region 5 with (fail)
 clear o0 of0 o1 of1 o2 of2 o3 of3 o4 of4
 replace Lc := Lc.far (g := go) (i := 0) (u := .int .i64 n) (by omega)
 replace Lr := Lr.far (g := go) (i := 0) (u := .int .i64 n) (by omega)
 replace Lp := Lp.far (g := go) (i := 0) (u := .int .i64 n) (by omega)
 replace Lq := Lq.far (g := go) (i := 0) (u := .int .i64 n) (by omega)
 replace Lo : Loc (W7.setCell ⟨go, 0, none⟩ (.int .i64 n)) (go) [.int .i64 n, .slice B1 cs.length k1, .slice B2 pl.length k2, .slice B3 ds.length k3, .int .i64 m] := Lo.set (i := 0) (v := .int .i64 n) rfl
 have hch : Chg [go] W7 (W7.setCell ⟨go, 0, none⟩ (.int .i64 n)) := chg_set (Chg.refl _ _) (by simp)
 replace OZ := Lib.hid (OZ.out.chg hch (fun x hx hx' => DZ.out x hx (by simp at hx'; subst hx'; simp)))
 replace FZ := Lib.hid (fresh_mono (w' := (W7.setCell ⟨go, 0, none⟩ (.int .i64 n))) FZ.out (Nat.le_refl _) hch.size)
 replace OK3 := Lib.hid (OK3.out.chg hch (fun x hx hx' => DK3.out x hx (by simp at hx'; subst hx'; simp)))
 replace FK3 := Lib.hid (fresh_mono (w' := (W7.setCell ⟨go, 0, none⟩ (.int .i64 n))) FK3.out (Nat.le_refl _) hch.size)
 replace hb : Below w.heap.size w (W7.setCell ⟨go, 0, none⟩ (.int .i64 n)) := Below.chg hb hch hb.size (by simp; omega)
 have hzc := hch.size
 clear hch
 generalize W7.setCell ⟨go, 0, none⟩ (.int .i64 n) = W8 at *
 replace Lc := Lc.far (g := go) (i := 1) (u := .slice E1 c3.length i1) (by omega)
 replace Lr := Lr.far (g := go) (i := 1) (u := .slice E1 c3.length i1) (by omega)
 replace Lp := Lp.far (g := go) (i := 1) (u := .slice E1 c3.length i1) (by omega)
 replace Lq := Lq.far (g := go) (i := 1) (u := .slice E1 c3.length i1) (by omega)
 replace Lo : Loc (W8.setCell ⟨go, 1, none⟩ (.slice E1 c3.length i1)) (go) [.int .i64 n, .slice E1 c3.length i1, .slice B2 pl.length k2, .slice B3 ds.length k3, .int .i64 m] := Lo.set (i := 1) (v := .slice B1 cs.length k1) rfl
 have hch : Chg [go] W8 (W8.setCell ⟨go, 1, none⟩ (.slice E1 c3.length i1)) := chg_set (Chg.refl _ _) (by simp)
 replace OZ := Lib.hid (OZ.out.chg hch (fun x hx hx' => DZ.out x hx (by simp at hx'; subst hx'; simp)))
 replace FZ := Lib.hid (fresh_mono (w' := (W8.setCell ⟨go, 1, none⟩ (.slice E1 c3.length i1))) FZ.out (Nat.le_refl _) hch.size)
 replace OK3 := Lib.hid (OK3.out.chg hch (fun x hx hx' => DK3.out x hx (by simp at hx'; subst hx'; simp)))
 replace FK3 := Lib.hid (fresh_mono (w' := (W8.setCell ⟨go, 1, none⟩ (.slice E1 c3.length i1))) FK3.out (Nat.le_refl _) hch.size)
 replace hb : Below w.heap.size w (W8.setCell ⟨go, 1, none⟩ (.slice E1 c3.length i1)) := Below.chg hb hch hb.size (by simp; omega)
 have hzc := hch.size
 clear hch
 generalize W8.setCell ⟨go, 1, none⟩ (.slice E1 c3.length i1) = W9 at *
 replace Lc := Lc.far (g := go) (i := 2) (u := .slice E2 pl.length i2) (by omega)
 replace Lr := Lr.far (g := go) (i := 2) (u := .slice E2 pl.length i2) (by omega)
 replace Lp := Lp.far (g := go) (i := 2) (u := .slice E2 pl.length i2) (by omega)
 replace Lq := Lq.far (g := go) (i := 2) (u := .slice E2 pl.length i2) (by omega)
 replace Lo : Loc (W9.setCell ⟨go, 2, none⟩ (.slice E2 pl.length i2)) (go) [.int .i64 n, .slice E1 c3.length i1, .slice E2 pl.length i2, .slice B3 ds.length k3, .int .i64 m] := Lo.set (i := 2) (v := .slice B2 pl.length k2) rfl
 have hch : Chg [go] W9 (W9.setCell ⟨go, 2, none⟩ (.slice E2 pl.length i2)) := chg_set (Chg.refl _ _) (by simp)
 replace OZ := Lib.hid (OZ.out.chg hch (fun x hx hx' => DZ.out x hx (by simp at hx'; subst hx'; simp)))
 replace FZ := Lib.hid (fresh_mono (w' := (W9.setCell ⟨go, 2, none⟩ (.slice E2 pl.length i2))) FZ.out (Nat.le_refl _) hch.size)
 replace OK3 := Lib.hid (OK3.out.chg hch (fun x hx hx' => DK3.out x hx (by simp at hx'; subst hx'; simp)))
 replace FK3 := Lib.hid (fresh_mono (w' := (W9.setCell ⟨go, 2, none⟩ (.slice E2 pl.length i2))) FK3.out (Nat.le_refl _) hch.size)
 replace hb : Below w.heap.size w (W9.setCell ⟨go, 2, none⟩ (.slice E2 pl.length i2)) := Below.chg hb hch hb.size (by simp; omega)
 have hzc := hch.size
 clear hch
 generalize W9.setCell ⟨go, 2, none⟩ (.slice E2 pl.length i2) = W10 at *
 replace FZ := Lib.hid (fresh_mono (B' := w.heap.size + 1 + 1) FZ.out (by have := hb.size; omega) (Nat.le_refl _))
 have OP : OwTheatre W10 (SZ ++ SK3) (.slice E1 c3.length i1) (.slice E2 pl.length i2) (.slice B3 ds.length k3) c3 pl ds := ⟨_, _, rfl, OZ.out, OK3.out⟩
 have FQ := Lib.hid (fresh_join FZ.out FK3.out (fun x hx hx' => HJZ.out x hx (by rw [eK]; exact List.mem_append_right _ hx')))
 have DQ : Hid (∀ x ∈ SZ ++ SK3, x ∉ [w.heap.size, w.heap.size + 1, go, gp, gq]) := (fun x hx => (List.mem_append.1 hx).elim (DZ.out x) (DK3.out x))
 have OQ := Lib.hid (OP)
 clear OZ FZ DZ OK3 FK3 DK3
 obtain ⟨SQ, hSQ⟩ : ∃ T, SZ ++ SK3 = T := ⟨_, rfl⟩
 rw [hSQ] at OQ FQ DQ
 clear hSQ
 clear OP
 cases b1
 ·skip
  have c0 := (Lc 0 _ rfl).1
  have c1 := (Lc 1 _ rfl).1
  have c2 := (Lc 2 _ rfl).1
  have c3 := (Lc 3 _ rfl).1
  have c4 := (Lc 4 _ rfl).1
  have o0 := (Lo 0 _ rfl).1
  have o1 := (Lo 1 _ rfl).1
  have o2 := (Lo 2 _ rfl).1
  have o3 := (Lo 3 _ rfl).1
  have o4 := (Lo 4 _ rfl).1
  go_wp2_with fail
  refine (becomes_eq (B := w.heap.size + 1 + 1) (S := SQ) Hres.out (h.below hb) hsz OQ.out FQ.out (by have := hb.size; omega)).mono ?_
  rintro e W11 ⟨z1, z2, z3, T, rfl, owr, fr, q⟩
  clear c0 c1 c2 c3 c4 o0 o1 o2 o3 o4
  obtain ⟨⟨Z1, e1, rfl⟩, ⟨Z2, e2, rfl⟩, ⟨Z3, e3, rfl⟩⟩ := owr.rd.forms
  have hzq : W10.heap.size ≤ W11.heap.size := by have := q.size; (try simp at this); omega
  replace Lc := Lc.below q
  replace Lr := Lr.below q
  replace Lo := Lo.below q
  replace Lp := Lp.below q
  replace Lq := Lq.below q
  replace OQ := Lib.hid (OQ.out.below q)
  replace FQ := Lib.hid (fresh_mono (w' := W11) FQ.out (Nat.le_refl _) hzq)
  replace hb : Below w.heap.size w W11 := hb.trans (q.mono hb.size)
  clear q
  have FR := Lib.hid fr
  have OR := Lib.hid owr
  clear fr owr Hres
  have r0 := (Lr 0 _ rfl).1
  have rf0 := (Lr 0 _ rfl).2
  have r1 := (Lr 1 _ rfl).1
  have rf1 := (Lr 1 _ rfl).2
  have r2 := (Lr 2 _ rfl).1
  have rf2 := (Lr 2 _ rfl).2
  have r3 := (Lr 3 _ rfl).1
  have rf3 := (Lr 3 _ rfl).2
  have r4 := (Lr 4 _ rfl).1
  have rf4 := (Lr 4 _ rfl).2
  go_wp2_with fail
  refine bodyPost_ret (v := .tuple #[.agg #[.int .i64 rn, .slice Z1 rcs.length e1, .slice Z2 rpl.length e2, .slice Z3 rds.length e3, .int .i64 rm], .bool rb]) (by simp [results, Tryz.results37, go_sem, *]) rfl ⟨_, _, _, T, rfl, ?_, ?_, ?_⟩
  ·exact OR.out.chg (T := [w.heap.size + 1]) (by repeat' (with_reducible first | exact Chg.refl _ _ | refine qC ?_)) (fun x hx hx' => by have := (FR.out.2 x hx).1; simp at hx'; omega)
  ·exact fresh_mono FR.out (by omega) (by simp)
  ·exact Below.chg hb (S := [w.heap.size + 1]) (by repeat' (with_reducible first | exact Chg.refl _ _ | refine qC ?_)) hb.size (fun x hx => by simp at hx; omega)
 ·skip
  have c0 := (Lc 0 _ rfl).1
  have c1 := (Lc 1 _ rfl).1
  have c2 := (Lc 2 _ rfl).1
  have c3 := (Lc 3 _ rfl).1
  have c4 := (Lc 4 _ rfl).1
  have o0 := (Lo 0 _ rfl).1
  have o1 := (Lo 1 _ rfl).1
  have o2 := (Lo 2 _ rfl).1
  have o3 := (Lo 3 _ rfl).1
  have o4 := (Lo 4 _ rfl).1
  go_wp2_with fail
  refine (becomes_eq (B := w.heap.size + 1 + 1) (S := SQ) Hres.out (h.below hb) hsz OQ.out FQ.out (by have := hb.size; omega)).mono ?_
  rintro e W11 ⟨z1, z2, z3, T, rfl, owr, fr, q⟩
  clear c0 c1 c2 c3 c4 o0 o1 o2 o3 o4
  obtain ⟨⟨Z1, e1, rfl⟩, ⟨Z2, e2, rfl⟩, ⟨Z3, e3, rfl⟩⟩ := owr.rd.forms
  have hzq : W10.heap.size ≤ W11.heap.size := by have := q.size; (try simp at this); omega
  replace Lc := Lc.below q
  replace Lr := Lr.below q
  replace Lo := Lo.below q
  replace Lp := Lp.below q
  replace Lq := Lq.below q
  replace OQ := Lib.hid (OQ.out.below q)
  replace FQ := Lib.hid (fresh_mono (w' := W11) FQ.out (Nat.le_refl _) hzq)
  replace hb : Below w.heap.size w W11 := hb.trans (q.mono hb.size)
  clear q
  have FR := Lib.hid fr
  have OR := Lib.hid owr
  clear fr owr Hres
  have r0 := (Lr 0 _ rfl).1
  have rf0 := (Lr 0 _ rfl).2
  have r1 := (Lr 1 _ rfl).1
  have rf1 := (Lr 1 _ rfl).2
  have r2 := (Lr 2 _ rfl).1
  have rf2 := (Lr 2 _ rfl).2
  have r3 := (Lr 3 _ rfl).1
  have rf3 := (Lr 3 _ rfl).2
  have r4 := (Lr 4 _ rfl).1
  have rf4 := (Lr 4 _ rfl).2
  go_wp2_with fail
  refine bodyPost_ret (v := .tuple #[.agg #[.int .i64 rn, .slice Z1 rcs.length e1, .slice Z2 rpl.length e2, .slice Z3 rds.length e3, .int .i64 rm], .bool rb]) (by simp [results, Tryz.results37, go_sem, *]) rfl ⟨_, _, _, T, rfl, ?_, ?_, ?_⟩
  ·exact OR.out.chg (T := [w.heap.size + 1]) (by repeat' (with_reducible first | exact Chg.refl _ _ | refine qC ?_)) (fun x hx hx' => by have := (FR.out.2 x hx).1; simp at hx'; omega)
  ·exact fresh_mono FR.out (by omega) (by simp)
  ·exact Below.chg hb (S := [w.heap.size + 1]) (by repeat' (with_reducible first | exact Chg.refl _ _ | refine qC ?_)) hb.size (fun x hx => by simp at hx; omega)
open Go.RowKit
def numB (b : Bool) : Int := if b = true then 1 else 0
def stepF (t : Th) (a : RAct) : Th × Int :=
 if a.1 = 1 then ((hireF t a.2.1).1, numB (hireF t a.2.1).2)
 else if a.1 = 2 then ((teachT t a.2.1 a.2.2).1, numB (teachT t a.2.1 a.2.2).2)
 else if a.1 = 3 then ((moveF t a.2.1 true).1, numB (moveF t a.2.1 true).2)
 else if a.1 = 4 then ((moveF t a.2.1 false).1, numB (moveF t a.2.1 false).2)
 else if a.1 = 5 then ((putT t).1, numB (putT t).2)
 else if a.1 = 6 then ((showF t a.2.1).1, numB (showF t a.2.1).2)
 else (t, whyF t.n t.cs t.pl)
def doF (t : Th) (a : RAct) : Th × Int := if t.ok = true ∧ actB a.1 a.2.1 a.2.2 = true then stepF t a else (t, -1)
theorem act_kinds {k a b : Int} (h : actB k a b = true) : k = 1 ∨ k = 2 ∨ k = 3 ∨ k = 4 ∨ k = 5 ∨ k = 6 ∨ k = 7 := by
 apply Classical.byContradiction
 intro hn
 unfold actB at h
 rw [if_neg (by omega), if_neg (by omega), if_neg (by omega), if_neg (by omega), if_neg (by omega), if_neg (by omega), if_neg (by omega)] at h
 cases h
theorem step_sz (t : Th) (a : RAct) : (stepF t a).1.sz ≤ t.sz ∨ (stepF t a).1.sz ≤ 148 := by
 unfold stepF
 repeat' split
 all_goals first | exact bec_sz _ _ _ | exact .inl (Nat.le_refl _)
theorem do_sz (t : Th) (a : RAct) : (doF t a).1.sz ≤ t.sz ∨ (doF t a).1.sz ≤ 148 := by
 unfold doF
 split
 ·exact step_sz t a
 ·exact .inl (Nat.le_refl _)
def RetTN (B : Nat) (n m k : Int) (cs : List RCross) (pl : List RPl) (ds : List Int) (w : World) (e : Ending) (w' : World) : Prop :=
 ∃ x1 x2 x3 S, e = .returned (.tuple #[.agg #[.int .i64 n, x1, x2, x3, .int .i64 m], .int .i64 k]) ∧ OwTheatre w' S x1 x2 x3 cs pl ds ∧ Fresh B w' S ∧ Below w.heap.size w w'
def RetDo (B : Nat) (r : Th × Int) : World → Ending → World → Prop := RetTN B r.1.n r.1.m r.2 r.1.cs r.1.pl r.1.ds
theorem do_eq {B : Nat} {t : Th} {a : RAct} {n m k : Int} {cs : List RCross} {pl : List RPl} {ds : List Int} {w w' : World} {e : Ending} (h : doF t a = (⟨n, m, cs, pl, ds⟩, k)) (hr : RetTN B n m k cs pl ds w e w') : RetDo B (doF t a) w e w' := by rw [h]; exact hr
theorem do_f {t : Th} {a : RAct} (h : ¬ (t.ok = true ∧ actB a.1 a.2.1 a.2.2 = true)) : doF t a = (t, -1) := if_neg h
theorem do_t {t : Th} {k a b : Int} (h1 : t.ok = true) (h2 : actB k a b = true) : doF t (k, a, b) = stepF t (k, a, b) := if_pos ⟨h1, h2⟩
theorem step_1 (t : Th) (a b : Int) : stepF t (1, a, b) = ((hireF t a).1, numB (hireF t a).2) := rfl
theorem step_2 (t : Th) (a b : Int) : stepF t (2, a, b) = ((teachT t a b).1, numB (teachT t a b).2) := rfl
theorem step_3 (t : Th) (a b : Int) : stepF t (3, a, b) = ((moveF t a true).1, numB (moveF t a true).2) := rfl
theorem step_4 (t : Th) (a b : Int) : stepF t (4, a, b) = ((moveF t a false).1, numB (moveF t a false).2) := rfl
theorem step_5 (t : Th) (a b : Int) : stepF t (5, a, b) = ((putT t).1, numB (putT t).2) := rfl
theorem step_6 (t : Th) (a b : Int) : stepF t (6, a, b) = ((showF t a).1, numB (showF t a).2) := rfl
theorem step_7 (t : Th) (a b : Int) : stepF t (7, a, b) = (t, whyF t.n t.cs t.pl) := rfl
theorem act78dwi {a : Act} (h : a.tmps.size = 78) (hd : a.defers = []) : ∃ x0 x1 x2 x3 x4 x5 x6 x7 x8 x9 x10 x11 x12 x13 x14 x15 x16 x17 x18 x19 x20 x21 x22 x23 x24 x25 x26 x27 x28 x29 x30 x31 x32 x33 x34 x35 x36 x37 x38 x39 x40 x41 x42 x43 x44 x45 x46 x47 x48 x49 x50 x51 x52 x53 x54 x55 x56 x57 x58 x59 x60 x61 x62 x63 x64 x65 x66 x67 x68 x69 x70 x71 x72 x73 x74 x75 x76 x77 : Value, a = ⟨#[x0, x1, x2, x3, x4, x5, x6, x7, x8, x9, x10, x11, x12, x13, x14, x15, x16, x17, x18, x19, x20, x21, x22, x23, x24, x25, x26, x27, x28, x29, x30, x31, x32, x33, x34, x35, x36, x37, x38, x39, x40, x41, x42, x43, x44, x45, x46, x47, x48, x49, x50, x51, x52, x53, x54, x55, x56, x57, x58, x59, x60, x61, x62, x63, x64, x65, x66, x67, x68, x69, x70, x71, x72, x73, x74, x75, x76, x77], []⟩ := by
 obtain ⟨⟨l⟩, d⟩ := a
 subst hd
 match l, h with
 | x0 :: x1 :: x2 :: x3 :: x4 :: x5 :: x6 :: x7 :: x8 :: x9 :: x10 :: x11 :: x12 :: x13 :: x14 :: x15 :: x16 :: x17 :: x18 :: x19 :: x20 :: x21 :: x22 :: x23 :: x24 :: x25 :: x26 :: x27 :: x28 :: x29 :: x30 :: x31 :: x32 :: x33 :: x34 :: x35 :: x36 :: x37 :: x38 :: x39 :: x40 :: x41 :: x42 :: x43 :: x44 :: x45 :: x46 :: x47 :: x48 :: x49 :: x50 :: x51 :: x52 :: x53 :: x54 :: x55 :: x56 :: x57 :: x58 :: x59 :: x60 :: x61 :: x62 :: x63 :: x64 :: x65 :: x66 :: x67 :: x68 :: x69 :: x70 :: x71 :: x72 :: x73 :: x74 :: x75 :: x76 :: x77 :: [], _ => exact ⟨x0, x1, x2, x3, x4, x5, x6, x7, x8, x9, x10, x11, x12, x13, x14, x15, x16, x17, x18, x19, x20, x21, x22, x23, x24, x25, x26, x27, x28, x29, x30, x31, x32, x33, x34, x35, x36, x37, x38, x39, x40, x41, x42, x43, x44, x45, x46, x47, x48, x49, x50, x51, x52, x53, x54, x55, x56, x57, x58, x59, x60, x61, x62, x63, x64, x65, x66, x67, x68, x69, x70, x71, x72, x73, x74, x75, x76, x77, rfl⟩
def pdwi (_w : World) (n m : Int) (A1 A2 B1 B2 B3 : Option Addr) (csn pln dsn n1 n2 k1 k2 k3 gc _gr _go : Nat) (wy : Int) (i : Nat) (v : Value) (_ : Nat → Nat) (_ : World) : Prop :=
 match i with
 | 0 => v = .agg #[.int .i64 n, .slice B1 csn k1, .slice B2 pln k2, .slice B3 dsn k3, .int .i64 m]
 | 1 => v = .pointer (some ⟨gc, 0, none⟩)
 | 2 => v = .agg #[.int .i64 n, .slice A1 csn n1, .slice A2 pln n2]
 | 3 => v = .int .i64 wy
 | _ => True
set_option maxHeartbeats 8000000 in
set_option maxRecDepth 100000 in
theorem implDoAct_any (n m ka aa ba : Int) (v1 v2 v3 : Value) (cs : List RCross) (pl : List RPl) (ds : List Int) (w : World) (h : RdTheatre w v1 v2 v3 cs pl ds) (hsz : szTheatre cs pl ds ≤ 1048576) :
  Calls Tryz.prog 17 #[.agg #[.int .i64 n, v1, v2, v3, .int .i64 m], .agg #[.int .i64 ka, .int .i64 aa, .int .i64 ba]] w (RetDo w.heap.size (doF ⟨n, m, cs, pl, ds⟩ (ka, aa, ba)) w) := by
 obtain ⟨⟨A1, n1, rfl⟩, ⟨A2, n2, rfl⟩, ⟨A3, n3, rfl⟩⟩ := h.forms
 go_enter Tryz.func17, Tryz.ntmps17
 go_wp2_with fail
 refine twoB (implTheatreOk_any n m _ _ _ cs pl ds _ (h.below (by (repeat' (with_reducible first | exact Below.refl _ _ | assumption | refine qS ?_ _ | refine qA ?_ _ | refine qD ?_ | refine qN ?_ _))))) (fun W1 hq q => ?_) (fun W1 hq q => ?_)
 ·skip
  have Lc : Loc W1 (w.heap.size) [.int .i64 n, .slice A1 cs.length n1, .slice A2 pl.length n2, .slice A3 ds.length n3, .int .i64 m] := by have := (((Loc.new w #[.int .i64 n, .slice A1 cs.length n1, .slice A2 pl.length n2, .slice A3 ds.length n3, .int .i64 m] 30).alloc _).alloc _).below q; simpa using this
  have La : Loc W1 (w.heap.size + 1) [.int .i64 ka, .int .i64 aa, .int .i64 ba] := by have := ((Loc.new (w.alloc (.cells #[.int .i64 n, .slice A1 cs.length n1, .slice A2 pl.length n2, .slice A3 ds.length n3, .int .i64 m] 30)) #[.int .i64 ka, .int .i64 aa, .int .i64 ba] 49).alloc _).below q; simpa using this
  have Lr : Loc W1 (w.heap.size + 1 + 1) [.int .i64 0, .slice none 0 0, .slice none 0 0, .slice none 0 0, .int .i64 0] := by have := (Loc.new ((w.alloc (.cells #[.int .i64 n, .slice A1 cs.length n1, .slice A2 pl.length n2, .slice A3 ds.length n3, .int .i64 m] 30)).alloc (.cells #[.int .i64 ka, .int .i64 aa, .int .i64 ba] 49)) #[.int .i64 0, .slice none 0 0, .slice none 0 0, .slice none 0 0, .int .i64 0] 30).below q; simpa using this
  have hb : Below w.heap.size w W1 := Below.trans (by (repeat' (with_reducible first | exact Below.refl _ _ | assumption | refine qS ?_ _ | refine qA ?_ _ | refine qD ?_ | refine qN ?_ _))) (q.mono (by simp <;> omega))
  have hz0 : w.heap.size + 1 + 1 + 1 ≤ W1.heap.size := by have := q.size; simp at this; omega
  clear q
  have HQ := hq
  have a0 := (La 0 _ rfl).1
  have a1 := (La 1 _ rfl).1
  have a2 := (La 2 _ rfl).1
  go_wp2_with fail
  refine twoB (implActOk_any ka aa ba _) (fun W2 HA q => ?_) (fun W2 HA q => ?_)
  ·skip
   clear a0 a1 a2
   have hzq : W1.heap.size ≤ W2.heap.size := by have := q.size; (try simp at this); omega
   replace Lc := Lc.below q
   replace La := La.below q
   replace Lr := Lr.below q
   replace hb : Below w.heap.size w W2 := hb.trans (q.mono hb.size)
   clear q
   have c0 := (Lc 0 _ rfl).1
   have c1 := (Lc 1 _ rfl).1
   have c2 := (Lc 2 _ rfl).1
   have c3 := (Lc 3 _ rfl).1
   have c4 := (Lc 4 _ rfl).1
   go_wp2_with fail
   refine (theatreCopied_any n m _ _ _ cs pl ds _ (h.below hb) hsz).mono ?_
   rintro e W3 ⟨x1, x2, x3, S, rfl, ow, f1, q⟩
   clear c0 c1 c2 c3 c4
   obtain ⟨⟨B1, k1, rfl⟩, ⟨B2, k2, rfl⟩, ⟨B3, k3, rfl⟩⟩ := ow.rd.forms
   have hzq : W2.heap.size ≤ W3.heap.size := by have := q.size; (try simp at this); omega
   replace Lc := Lc.below q
   replace La := La.below q
   replace Lr := Lr.below q
   replace hb : Below w.heap.size w W3 := hb.trans (q.mono hb.size)
   have hlow : W2.heap.size ≤ W2.heap.size := by first | exact Nat.le_refl _ | (simp; done) | (simp; omega) | omega
   have FK := Lib.hid (fresh_mono f1 hlow (Nat.le_refl _))
   have DK : Hid (∀ x ∈ S, x ∉ [w.heap.size, w.heap.size + 1, w.heap.size + 1 + 1]) := (fun x hx => by have := (FK.out.2 x hx).1; simp; omega)
   have OK := Lib.hid ow
   clear ow f1 hlow
   clear q
   go_upto_region 4 with (fail)
   replace Lc : Loc (W3.alloc (.cells #[.int .i64 n, .slice B1 cs.length k1, .slice B2 pl.length k2, .slice B3 ds.length k3, .int .i64 m] 30)) (w.heap.size) [.int .i64 n, .slice A1 cs.length n1, .slice A2 pl.length n2, .slice A3 ds.length n3, .int .i64 m] := Lc.alloc _
   replace La : Loc (W3.alloc (.cells #[.int .i64 n, .slice B1 cs.length k1, .slice B2 pl.length k2, .slice B3 ds.length k3, .int .i64 m] 30)) (w.heap.size + 1) [.int .i64 ka, .int .i64 aa, .int .i64 ba] := La.alloc _
   replace Lr : Loc (W3.alloc (.cells #[.int .i64 n, .slice B1 cs.length k1, .slice B2 pl.length k2, .slice B3 ds.length k3, .int .i64 m] 30)) (w.heap.size + 1 + 1) [.int .i64 0, .slice none 0 0, .slice none 0 0, .slice none 0 0, .int .i64 0] := Lr.alloc _
   obtain ⟨go, hgo⟩ : ∃ g, W3.heap.size = g := ⟨_, rfl⟩
   have Lo : Loc (W3.alloc (.cells #[.int .i64 n, .slice B1 cs.length k1, .slice B2 pl.length k2, .slice B3 ds.length k3, .int .i64 m] 30)) W3.heap.size [.int .i64 n, .slice B1 cs.length k1, .slice B2 pl.length k2, .slice B3 ds.length k3, .int .i64 m] := Loc.new W3 #[.int .i64 n, .slice B1 cs.length k1, .slice B2 pl.length k2, .slice B3 ds.length k3, .int .i64 m] 30
   rw [hgo] at Lo
   replace OK := Lib.hid (OK.out.below (w' := (W3.alloc (.cells #[.int .i64 n, .slice B1 cs.length k1, .slice B2 pl.length k2, .slice B3 ds.length k3, .int .i64 m] 30))) ((Below.refl _ _).alloc (Nat.le_refl _) _))
   replace DK : Hid (∀ x ∈ S, x ∉ [w.heap.size, w.heap.size + 1, w.heap.size + 1 + 1, go]) := (fun x hx => by have := DK.out x hx; have := (FK.out.2 x hx).2; simp at *; omega)
   replace FK := Lib.hid (fresh_mono (w' := (W3.alloc (.cells #[.int .i64 n, .slice B1 cs.length k1, .slice B2 pl.length k2, .slice B3 ds.length k3, .int .i64 m] 30))) FK.out (Nat.le_refl _) (by simp))
   replace hb : Below w.heap.size w (W3.alloc (.cells #[.int .i64 n, .slice B1 cs.length k1, .slice B2 pl.length k2, .slice B3 ds.length k3, .int .i64 m] 30)) := hb.alloc hb.size _
   have hlto : go < (W3.alloc (.cells #[.int .i64 n, .slice B1 cs.length k1, .slice B2 pl.length k2, .slice B3 ds.length k3, .int .i64 m] 30)).heap.size := by simp; omega
   have hne_c_o : w.heap.size < go := by omega
   have hne_a_o : w.heap.size + 1 < go := by omega
   have hne_r_o : w.heap.size + 1 + 1 < go := by omega
   generalize W3.alloc (.cells #[.int .i64 n, .slice B1 cs.length k1, .slice B2 pl.length k2, .slice B3 ds.length k3, .int .i64 m] 30) = W4 at *
   rw [hgo]
   clear hgo
   rcases act_kinds HA.out with rfl | rfl | rfl | rfl | rfl | rfl | rfl
   obtain ⟨⟨⟨rn, rm, rcs, rpl, rds⟩, rb⟩, hres⟩ : ∃ res, hireF ⟨n, m, cs, pl, ds⟩ aa = res := ⟨_, rfl⟩
   have hX : Hid (∀ W, RdTheatre W (.slice A1 cs.length n1) (.slice A2 pl.length n2) (.slice A3 ds.length n3) cs pl ds → Calls Tryz.prog 34 #[.agg #[.int .i64 n, .slice A1 cs.length n1, .slice A2 pl.length n2, .slice A3 ds.length n3, .int .i64 m], .int .i64 aa] W (RetT W.heap.size rn rm rb rcs rpl rds W)) := fun W hr => by
    have := implHirePlayer_any n m aa _ _ _ cs pl ds W hr hsz
    rw [hres] at this
    exact this
   have HD : Hid (doF ⟨n, m, cs, pl, ds⟩ (1, aa, ba) = (⟨rn, rm, rcs, rpl, rds⟩, numB rb)) := by show _ = _; rw [do_t (t := ⟨n, m, cs, pl, ds⟩) HQ.out HA.out, step_1, hres]
   clear hres
   have a0 := (La 0 _ rfl).1
   have a1 := (La 1 _ rfl).1
   have a2 := (La 2 _ rfl).1
   clear La
   rotate_left
   obtain ⟨⟨⟨rn, rm, rcs, rpl, rds⟩, rb⟩, hres⟩ : ∃ res, teachT ⟨n, m, cs, pl, ds⟩ aa ba = res := ⟨_, rfl⟩
   have hX : Hid (∀ W, RdTheatre W (.slice A1 cs.length n1) (.slice A2 pl.length n2) (.slice A3 ds.length n3) cs pl ds → Calls Tryz.prog 35 #[.agg #[.int .i64 n, .slice A1 cs.length n1, .slice A2 pl.length n2, .slice A3 ds.length n3, .int .i64 m], .int .i64 aa, .int .i64 ba] W (RetT W.heap.size rn rm rb rcs rpl rds W)) := fun W hr => by
    have := implTeachPlayer_any n m aa ba _ _ _ cs pl ds W hr hsz
    rw [hres] at this
    exact this
   have HD : Hid (doF ⟨n, m, cs, pl, ds⟩ (2, aa, ba) = (⟨rn, rm, rcs, rpl, rds⟩, numB rb)) := by show _ = _; rw [do_t (t := ⟨n, m, cs, pl, ds⟩) HQ.out HA.out, step_2, hres]
   clear hres
   have a0 := (La 0 _ rfl).1
   have a1 := (La 1 _ rfl).1
   have a2 := (La 2 _ rfl).1
   clear La
   rotate_left
   obtain ⟨⟨⟨rn, rm, rcs, rpl, rds⟩, rb⟩, hres⟩ : ∃ res, moveF ⟨n, m, cs, pl, ds⟩ aa true = res := ⟨_, rfl⟩
   have hX : Hid (∀ W, RdTheatre W (.slice A1 cs.length n1) (.slice A2 pl.length n2) (.slice A3 ds.length n3) cs pl ds → Calls Tryz.prog 36 #[.agg #[.int .i64 n, .slice A1 cs.length n1, .slice A2 pl.length n2, .slice A3 ds.length n3, .int .i64 m], .int .i64 aa, .bool true] W (RetT W.heap.size rn rm rb rcs rpl rds W)) := fun W hr => by
    have := implMovePuppet_any n m aa true _ _ _ cs pl ds W hr hsz
    rw [hres] at this
    exact this
   have HD : Hid (doF ⟨n, m, cs, pl, ds⟩ (3, aa, ba) = (⟨rn, rm, rcs, rpl, rds⟩, numB rb)) := by show _ = _; rw [do_t (t := ⟨n, m, cs, pl, ds⟩) HQ.out HA.out, step_3, hres]
   clear hres
   have a0 := (La 0 _ rfl).1
   have a1 := (La 1 _ rfl).1
   have a2 := (La 2 _ rfl).1
   clear La
   rotate_left
   obtain ⟨⟨⟨rn, rm, rcs, rpl, rds⟩, rb⟩, hres⟩ : ∃ res, moveF ⟨n, m, cs, pl, ds⟩ aa false = res := ⟨_, rfl⟩
   have hX : Hid (∀ W, RdTheatre W (.slice A1 cs.length n1) (.slice A2 pl.length n2) (.slice A3 ds.length n3) cs pl ds → Calls Tryz.prog 36 #[.agg #[.int .i64 n, .slice A1 cs.length n1, .slice A2 pl.length n2, .slice A3 ds.length n3, .int .i64 m], .int .i64 aa, .bool false] W (RetT W.heap.size rn rm rb rcs rpl rds W)) := fun W hr => by
    have := implMovePuppet_any n m aa false _ _ _ cs pl ds W hr hsz
    rw [hres] at this
    exact this
   have HD : Hid (doF ⟨n, m, cs, pl, ds⟩ (4, aa, ba) = (⟨rn, rm, rcs, rpl, rds⟩, numB rb)) := by show _ = _; rw [do_t (t := ⟨n, m, cs, pl, ds⟩) HQ.out HA.out, step_4, hres]
   clear hres
   have a0 := (La 0 _ rfl).1
   have a1 := (La 1 _ rfl).1
   have a2 := (La 2 _ rfl).1
   clear La
   rotate_left
   obtain ⟨⟨⟨rn, rm, rcs, rpl, rds⟩, rb⟩, hres⟩ : ∃ res, putT ⟨n, m, cs, pl, ds⟩ = res := ⟨_, rfl⟩
   have hX : Hid (∀ W, RdTheatre W (.slice A1 cs.length n1) (.slice A2 pl.length n2) (.slice A3 ds.length n3) cs pl ds → Calls Tryz.prog 37 #[.agg #[.int .i64 n, .slice A1 cs.length n1, .slice A2 pl.length n2, .slice A3 ds.length n3, .int .i64 m]] W (RetT W.heap.size rn rm rb rcs rpl rds W)) := fun W hr => by
    have := implPutInOrder_any n m  _ _ _ cs pl ds W hr hsz
    rw [hres] at this
    exact this
   have HD : Hid (doF ⟨n, m, cs, pl, ds⟩ (5, aa, ba) = (⟨rn, rm, rcs, rpl, rds⟩, numB rb)) := by show _ = _; rw [do_t (t := ⟨n, m, cs, pl, ds⟩) HQ.out HA.out, step_5, hres]
   clear hres
   have a0 := (La 0 _ rfl).1
   have a1 := (La 1 _ rfl).1
   have a2 := (La 2 _ rfl).1
   clear La
   rotate_left
   obtain ⟨⟨⟨rn, rm, rcs, rpl, rds⟩, rb⟩, hres⟩ : ∃ res, showF ⟨n, m, cs, pl, ds⟩ aa = res := ⟨_, rfl⟩
   have hX : Hid (∀ W, RdTheatre W (.slice A1 cs.length n1) (.slice A2 pl.length n2) (.slice A3 ds.length n3) cs pl ds → Calls Tryz.prog 38 #[.agg #[.int .i64 n, .slice A1 cs.length n1, .slice A2 pl.length n2, .slice A3 ds.length n3, .int .i64 m], .int .i64 aa] W (RetT W.heap.size rn rm rb rcs rpl rds W)) := fun W hr => by
    have := implGiveShow_any n m aa _ _ _ cs pl ds W hr hsz
    rw [hres] at this
    exact this
   have HD : Hid (doF ⟨n, m, cs, pl, ds⟩ (6, aa, ba) = (⟨rn, rm, rcs, rpl, rds⟩, numB rb)) := by show _ = _; rw [do_t (t := ⟨n, m, cs, pl, ds⟩) HQ.out HA.out, step_6, hres]
   clear hres
   have a0 := (La 0 _ rfl).1
   have a1 := (La 1 _ rfl).1
   have a2 := (La 2 _ rfl).1
   clear La
   rotate_left
   ·skip
    have HD : Hid (doF ⟨n, m, cs, pl, ds⟩ (7, aa, ba) = (⟨n, m, cs, pl, ds⟩, whyF n cs pl)) := by show _ = _; rw [do_t (t := ⟨n, m, cs, pl, ds⟩) HQ.out HA.out, step_7]
    have hWN : Hid (∀ w', RdCompany w' (.slice A1 cs.length n1) (.slice A2 pl.length n2) cs pl → Calls Tryz.prog 22 #[.agg #[.int .i64 n, .slice A1 cs.length n1, .slice A2 pl.length n2]] w' fun e w'' => e = .returned (.int .i64 (whyF n cs pl)) ∧ Below w'.heap.size w' w'') := fun w' hr => implWhyNot_any n _ _ cs pl w' hr
    generalize whyF n cs pl = wy at *
    have a0 := (La 0 _ rfl).1
    have a1 := (La 1 _ rfl).1
    have a2 := (La 2 _ rfl).1
    go_upto_region 5 with (fail)
    clear a0 a1 a2
    refine region_made (n := 78) 4 (by kernel_rfl) rfl (by kernel_rfl) (fun w' => Below W4.heap.size W4 w') (fun _ => 0) (pdwi w n m A1 A2 B1 B2 B3 cs.length pl.length ds.length n1 n2 k1 k2 k3 (w.heap.size) (w.heap.size + 1 + 1) (go) wy) (Below.refl _ _).drew ?_ ?_ ?_
    ·intro i v gh gh' w1 w2 hp hJ hb' hg
     match i, hp with
     | 0, hp => exact hp
     | 1, hp => exact hp
     | 2, hp => exact hp
     | 3, hp => exact hp
     | _ + 4, _ => trivial
    ·refine ⟨?_, ?_, ?_, ?_, trivial⟩
     ·intro a gh w5 hag hJ hd
      have ag6 : a.tmps.getD 6 undef = .pointer (some ⟨go, 0, none⟩) := hag.kept 6 (by kernel_rfl)
      clear hag
      have o0 := ((Lo.below hJ) 0 _ rfl).1
      have o1 := ((Lo.below hJ) 1 _ rfl).1
      have o2 := ((Lo.below hJ) 2 _ rfl).1
      have o3 := ((Lo.below hJ) 3 _ rfl).1
      have o4 := ((Lo.below hJ) 4 _ rfl).1
      go_wp2_with fail
      exact ⟨rfl, _, rfl, rfl, hJ, Below.refl _ _⟩
     ·intro a gh w5 hag hJ hd
      have ag2 : a.tmps.getD 2 undef = .pointer (some ⟨w.heap.size, 0, none⟩) := hag.kept 2 (by kernel_rfl)
      clear hag
      go_wp2_with fail
      exact ⟨rfl, _, rfl, rfl, hJ, Below.refl _ _⟩
     ·intro a gh w5 hag hJ hd
      clear hag
      have e0 : a.tmps.getD 23 undef = .pointer (some ⟨w.heap.size, 0, none⟩) := hd 1 (by kernel_rfl) _ rfl
      have c0 := ((Lc.below hJ) 0 _ rfl).1
      have c1 := ((Lc.below hJ) 1 _ rfl).1
      have c2 := ((Lc.below hJ) 2 _ rfl).1
      go_wp2_with fail
      exact ⟨rfl, _, rfl, rfl, hJ, Below.refl _ _⟩
     ·intro a gh w5 hag hJ hd
      clear hag
      have e0 : a.tmps.getD 24 undef = .agg #[.int .i64 n, .slice A1 cs.length n1, .slice A2 pl.length n2] := hd 2 (by kernel_rfl) _ rfl
      go_wp2_with fail
      refine (hWN.out w5 ((h.below (hb.trans (hJ.mono hb.size))).1)).mono ?_
      rintro e w6 ⟨rfl, hb6⟩
      go_wp2_with fail
      exact ⟨rfl, _, rfl, rfl, bl_trans hJ hb6, hb6⟩
    ·intro a gh w5 hag hJ hd
     obtain ⟨x0, x1, x2, x3, x4, x5, x6, x7, x8, x9, x10, x11, x12, x13, x14, x15, x16, x17, x18, x19, x20, x21, x22, x23, x24, x25, x26, x27, x28, x29, x30, x31, x32, x33, x34, x35, x36, x37, x38, x39, x40, x41, x42, x43, x44, x45, x46, x47, x48, x49, x50, x51, x52, x53, x54, x55, x56, x57, x58, x59, x60, x61, x62, x63, x64, x65, x66, x67, x68, x69, x70, x71, x72, x73, x74, x75, x76, x77, rfl⟩ := act78dwi hag.size hag.defers
     have ag2 : x2 = .pointer (some ⟨w.heap.size, 0, none⟩) := hag.kept 2 (by kernel_rfl)
     have ag4 : x4 = .pointer (some ⟨w.heap.size + 1 + 1, 0, none⟩) := hag.kept 4 (by kernel_rfl)
     have ag6 : x6 = .pointer (some ⟨go, 0, none⟩) := hag.kept 6 (by kernel_rfl)
     clear hag
     subst ag2 ag4 ag6
     have e0 : x22 = .agg #[.int .i64 n, .slice B1 cs.length k1, .slice B2 pl.length k2, .slice B3 ds.length k3, .int .i64 m] := hd 0 (by kernel_rfl) _ rfl
     have e3 : x25 = .int .i64 wy := hd 3 (by kernel_rfl) _ rfl
     subst e0 e3
     clear hd
     change wpList _ _ _ [_, _] _ _
     have hzq : W4.heap.size ≤ w5.heap.size := by have := hJ.size; (try simp at this); omega
     replace Lc := Lc.below hJ
     replace La := La.below hJ
     replace Lr := Lr.below hJ
     replace Lo := Lo.below hJ
     replace OK := Lib.hid (OK.out.below hJ)
     replace FK := Lib.hid (fresh_mono (w' := w5) FK.out (Nat.le_refl _) hzq)
     replace hb : Below w.heap.size w w5 := hb.trans (hJ.mono hb.size)
     clear hJ
     have r0 := (Lr 0 _ rfl).1
     have rf0 := (Lr 0 _ rfl).2
     have r1 := (Lr 1 _ rfl).1
     have rf1 := (Lr 1 _ rfl).2
     have r2 := (Lr 2 _ rfl).1
     have rf2 := (Lr 2 _ rfl).2
     have r3 := (Lr 3 _ rfl).1
     have rf3 := (Lr 3 _ rfl).2
     have r4 := (Lr 4 _ rfl).1
     have rf4 := (Lr 4 _ rfl).2
     go_wp2_with fail
     refine bodyPost_ret (v := .tuple #[.agg #[.int .i64 n, .slice B1 cs.length k1, .slice B2 pl.length k2, .slice B3 ds.length k3, .int .i64 m], .int .i64 wy]) (by simp [results, Tryz.results17, go_sem, *]) rfl (do_eq HD.out ⟨_, _, _, S, rfl, ?_, ?_, ?_⟩)
     ·exact OK.out.chg (T := [w.heap.size + 1 + 1]) (by repeat' (with_reducible first | exact Chg.refl _ _ | refine qC ?_)) (fun x hx hx' => DK.out x hx (by simp at hx' ⊢; omega))
     ·exact fresh_mono FK.out (by omega) (by simp)
     ·exact Below.chg hb (S := [w.heap.size + 1 + 1]) (by repeat' (with_reducible first | exact Chg.refl _ _ | refine qC ?_)) hb.size (fun x hx => by simp at hx; omega)
   all_goals
    have c0 := (Lc 0 _ rfl).1
    have c1 := (Lc 1 _ rfl).1
    have c2 := (Lc 2 _ rfl).1
    have c3 := (Lc 3 _ rfl).1
    have c4 := (Lc 4 _ rfl).1
    go_wp2_with fail
    refine (hX.out _ (h.below hb)).mono ?_
    rintro e W5 ⟨z1, z2, z3, T, rfl, owr, fr, q⟩
    clear c0 c1 c2 c3 c4
    obtain ⟨⟨Z1, e1, rfl⟩, ⟨Z2, e2, rfl⟩, ⟨Z3, e3, rfl⟩⟩ := owr.rd.forms
    have hzq : W4.heap.size ≤ W5.heap.size := by have := q.size; (try simp at this); omega
    replace Lc := Lc.below q
    replace Lr := Lr.below q
    replace Lo := Lo.below q
    replace OK := Lib.hid (OK.out.below q)
    replace FK := Lib.hid (fresh_mono (w' := W5) FK.out (Nat.le_refl _) hzq)
    replace hb : Below w.heap.size w W5 := hb.trans (q.mono hb.size)
    have hlow : W4.heap.size ≤ W4.heap.size := by first | exact Nat.le_refl _ | (simp; done) | (simp; omega) | omega
    have FZ := Lib.hid (fresh_mono fr hlow (Nat.le_refl _))
    have DZ : Hid (∀ x ∈ T, x ∉ [w.heap.size, w.heap.size + 1 + 1, go]) := (fun x hx => by have := (FZ.out.2 x hx).1; simp; omega)
    have OZ := Lib.hid owr
    clear owr fr hlow
    clear q
    clear OK FK DK
    cases rb
    ·skip
     have o0 := (Lo 0 _ rfl).1
     have of0 := (Lo 0 _ rfl).2
     have o1 := (Lo 1 _ rfl).1
     have of1 := (Lo 1 _ rfl).2
     have o2 := (Lo 2 _ rfl).1
     have of2 := (Lo 2 _ rfl).2
     have o3 := (Lo 3 _ rfl).1
     have of3 := (Lo 3 _ rfl).2
     have o4 := (Lo 4 _ rfl).1
     have of4 := (Lo 4 _ rfl).2
     have r0 := (Lr 0 _ rfl).1
     have rf0 := (Lr 0 _ rfl).2
     have r1 := (Lr 1 _ rfl).1
     have rf1 := (Lr 1 _ rfl).2
     have r2 := (Lr 2 _ rfl).1
     have rf2 := (Lr 2 _ rfl).2
     have r3 := (Lr 3 _ rfl).1
     have rf3 := (Lr 3 _ rfl).2
     have r4 := (Lr 4 _ rfl).1
     have rf4 := (Lr 4 _ rfl).2
     go_wp2_with fail
     refine bodyPost_ret (v := .tuple #[.agg #[.int .i64 rn, .slice Z1 rcs.length e1, .slice Z2 rpl.length e2, .slice Z3 rds.length e3, .int .i64 rm], .int .i64 0]) (by simp [results, Tryz.results17, go_sem, *]) rfl (do_eq HD.out ⟨_, _, _, T, rfl, ?_, ?_, ?_⟩)
     ·exact OZ.out.chg (T := [go, w.heap.size + 1 + 1]) (by repeat' (with_reducible first | exact Chg.refl _ _ | refine qC ?_)) (fun x hx hx' => DZ.out x hx (by simp at hx' ⊢; omega))
     ·exact fresh_mono FZ.out (by omega) (by simp)
     ·exact Below.chg hb (S := [go, w.heap.size + 1 + 1]) (by repeat' (with_reducible first | exact Chg.refl _ _ | refine qC ?_)) hb.size (fun x hx => by simp at hx; omega)
    ·skip
     have o0 := (Lo 0 _ rfl).1
     have of0 := (Lo 0 _ rfl).2
     have o1 := (Lo 1 _ rfl).1
     have of1 := (Lo 1 _ rfl).2
     have o2 := (Lo 2 _ rfl).1
     have of2 := (Lo 2 _ rfl).2
     have o3 := (Lo 3 _ rfl).1
     have of3 := (Lo 3 _ rfl).2
     have o4 := (Lo 4 _ rfl).1
     have of4 := (Lo 4 _ rfl).2
     have r0 := (Lr 0 _ rfl).1
     have rf0 := (Lr 0 _ rfl).2
     have r1 := (Lr 1 _ rfl).1
     have rf1 := (Lr 1 _ rfl).2
     have r2 := (Lr 2 _ rfl).1
     have rf2 := (Lr 2 _ rfl).2
     have r3 := (Lr 3 _ rfl).1
     have rf3 := (Lr 3 _ rfl).2
     have r4 := (Lr 4 _ rfl).1
     have rf4 := (Lr 4 _ rfl).2
     go_wp2_with fail
     refine bodyPost_ret (v := .tuple #[.agg #[.int .i64 rn, .slice Z1 rcs.length e1, .slice Z2 rpl.length e2, .slice Z3 rds.length e3, .int .i64 rm], .int .i64 1]) (by simp [results, Tryz.results17, go_sem, *]) rfl (do_eq HD.out ⟨_, _, _, T, rfl, ?_, ?_, ?_⟩)
     ·exact OZ.out.chg (T := [go, w.heap.size + 1 + 1]) (by repeat' (with_reducible first | exact Chg.refl _ _ | refine qC ?_)) (fun x hx hx' => DZ.out x hx (by simp at hx' ⊢; omega))
     ·exact fresh_mono FZ.out (by omega) (by simp)
     ·exact Below.chg hb (S := [go, w.heap.size + 1 + 1]) (by repeat' (with_reducible first | exact Chg.refl _ _ | refine qC ?_)) hb.size (fun x hx => by simp at hx; omega)
  ·skip
   clear a0 a1 a2
   have hzq : W1.heap.size ≤ W2.heap.size := by have := q.size; (try simp at this); omega
   replace Lc := Lc.below q
   replace La := La.below q
   replace Lr := Lr.below q
   replace hb : Below w.heap.size w W2 := hb.trans (q.mono hb.size)
   clear q
   have c0 := (Lc 0 _ rfl).1
   have c1 := (Lc 1 _ rfl).1
   have c2 := (Lc 2 _ rfl).1
   have c3 := (Lc 3 _ rfl).1
   have c4 := (Lc 4 _ rfl).1
   go_wp2_with fail
   refine (theatreCopied_any n m _ _ _ cs pl ds _ (h.below hb) hsz).mono ?_
   rintro e W3 ⟨y1, y2, y3, T, rfl, ow6, f6, q⟩
   clear c0 c1 c2 c3 c4
   obtain ⟨⟨D1, e1, rfl⟩, ⟨D2, e2, rfl⟩, ⟨D3, e3, rfl⟩⟩ := ow6.rd.forms
   have hzq : W2.heap.size ≤ W3.heap.size := by have := q.size; (try simp at this); omega
   replace Lc := Lc.below q
   replace La := La.below q
   replace Lr := Lr.below q
   replace hb : Below w.heap.size w W3 := hb.trans (q.mono hb.size)
   have hlow : W2.heap.size ≤ W2.heap.size := by first | exact Nat.le_refl _ | (simp; done) | (simp; omega) | omega
   have FZ := Lib.hid (fresh_mono f6 hlow (Nat.le_refl _))
   have DZ : Hid (∀ x ∈ T, x ∉ [w.heap.size, w.heap.size + 1, w.heap.size + 1 + 1]) := (fun x hx => by have := (FZ.out.2 x hx).1; simp; omega)
   have OZ := Lib.hid ow6
   clear ow6 f6 hlow
   clear q
   have r0 := (Lr 0 _ rfl).1
   have rf0 := (Lr 0 _ rfl).2
   have r1 := (Lr 1 _ rfl).1
   have rf1 := (Lr 1 _ rfl).2
   have r2 := (Lr 2 _ rfl).1
   have rf2 := (Lr 2 _ rfl).2
   have r3 := (Lr 3 _ rfl).1
   have rf3 := (Lr 3 _ rfl).2
   have r4 := (Lr 4 _ rfl).1
   have rf4 := (Lr 4 _ rfl).2
   go_wp2_with fail
   refine bodyPost_ret (v := .tuple #[.agg #[.int .i64 n, .slice D1 cs.length e1, .slice D2 pl.length e2, .slice D3 ds.length e3, .int .i64 m], .int .i64 (-1)]) (by simp [results, Tryz.results17, go_sem, *]) rfl (do_eq (do_f (fun hh => absurd (show actB ka aa ba = true from hh.2) (by rw [HA.out]; simp))) ⟨_, _, _, T, rfl, ?_, ?_, ?_⟩)
   ·exact OZ.out.chg (T := [w.heap.size + 1 + 1]) (by repeat' (with_reducible first | exact Chg.refl _ _ | refine qC ?_)) (fun x hx hx' => DZ.out x hx (by simp at hx'; subst hx'; simp))
   ·exact fresh_mono FZ.out (by omega) (by simp)
   ·exact Below.chg hb (S := [w.heap.size + 1 + 1]) (by repeat' (with_reducible first | exact Chg.refl _ _ | refine qC ?_)) hb.size (fun x hx => by simp at hx; omega)
 ·skip
  have Lc : Loc W1 (w.heap.size) [.int .i64 n, .slice A1 cs.length n1, .slice A2 pl.length n2, .slice A3 ds.length n3, .int .i64 m] := by have := (((Loc.new w #[.int .i64 n, .slice A1 cs.length n1, .slice A2 pl.length n2, .slice A3 ds.length n3, .int .i64 m] 30).alloc _).alloc _).below q; simpa using this
  have La : Loc W1 (w.heap.size + 1) [.int .i64 ka, .int .i64 aa, .int .i64 ba] := by have := ((Loc.new (w.alloc (.cells #[.int .i64 n, .slice A1 cs.length n1, .slice A2 pl.length n2, .slice A3 ds.length n3, .int .i64 m] 30)) #[.int .i64 ka, .int .i64 aa, .int .i64 ba] 49).alloc _).below q; simpa using this
  have Lr : Loc W1 (w.heap.size + 1 + 1) [.int .i64 0, .slice none 0 0, .slice none 0 0, .slice none 0 0, .int .i64 0] := by have := (Loc.new ((w.alloc (.cells #[.int .i64 n, .slice A1 cs.length n1, .slice A2 pl.length n2, .slice A3 ds.length n3, .int .i64 m] 30)).alloc (.cells #[.int .i64 ka, .int .i64 aa, .int .i64 ba] 49)) #[.int .i64 0, .slice none 0 0, .slice none 0 0, .slice none 0 0, .int .i64 0] 30).below q; simpa using this
  have hb : Below w.heap.size w W1 := Below.trans (by (repeat' (with_reducible first | exact Below.refl _ _ | assumption | refine qS ?_ _ | refine qA ?_ _ | refine qD ?_ | refine qN ?_ _))) (q.mono (by simp <;> omega))
  have hz0 : w.heap.size + 1 + 1 + 1 ≤ W1.heap.size := by have := q.size; simp at this; omega
  clear q
  have c0 := (Lc 0 _ rfl).1
  have c1 := (Lc 1 _ rfl).1
  have c2 := (Lc 2 _ rfl).1
  have c3 := (Lc 3 _ rfl).1
  have c4 := (Lc 4 _ rfl).1
  go_wp2_with fail
  refine (theatreCopied_any n m _ _ _ cs pl ds _ (h.below hb) hsz).mono ?_
  rintro e W2 ⟨y1, y2, y3, T, rfl, ow6, f6, q⟩
  clear c0 c1 c2 c3 c4
  obtain ⟨⟨D1, e1, rfl⟩, ⟨D2, e2, rfl⟩, ⟨D3, e3, rfl⟩⟩ := ow6.rd.forms
  have hzq : W1.heap.size ≤ W2.heap.size := by have := q.size; (try simp at this); omega
  replace Lc := Lc.below q
  replace La := La.below q
  replace Lr := Lr.below q
  replace hb : Below w.heap.size w W2 := hb.trans (q.mono hb.size)
  have hlow : W1.heap.size ≤ W1.heap.size := by first | exact Nat.le_refl _ | (simp; done) | (simp; omega) | omega
  have FZ := Lib.hid (fresh_mono f6 hlow (Nat.le_refl _))
  have DZ : Hid (∀ x ∈ T, x ∉ [w.heap.size, w.heap.size + 1, w.heap.size + 1 + 1]) := (fun x hx => by have := (FZ.out.2 x hx).1; simp; omega)
  have OZ := Lib.hid ow6
  clear ow6 f6 hlow
  clear q
  have r0 := (Lr 0 _ rfl).1
  have rf0 := (Lr 0 _ rfl).2
  have r1 := (Lr 1 _ rfl).1
  have rf1 := (Lr 1 _ rfl).2
  have r2 := (Lr 2 _ rfl).1
  have rf2 := (Lr 2 _ rfl).2
  have r3 := (Lr 3 _ rfl).1
  have rf3 := (Lr 3 _ rfl).2
  have r4 := (Lr 4 _ rfl).1
  have rf4 := (Lr 4 _ rfl).2
  go_wp2_with fail
  refine bodyPost_ret (v := .tuple #[.agg #[.int .i64 n, .slice D1 cs.length e1, .slice D2 pl.length e2, .slice D3 ds.length e3, .int .i64 m], .int .i64 (-1)]) (by simp [results, Tryz.results17, go_sem, *]) rfl (do_eq (do_f (fun hh => absurd (show theatreB n m cs pl ds = true from hh.1) (by rw [hq.out]; simp))) ⟨_, _, _, T, rfl, ?_, ?_, ?_⟩)
  ·exact OZ.out.chg (T := [w.heap.size + 1 + 1]) (by repeat' (with_reducible first | exact Chg.refl _ _ | refine qC ?_)) (fun x hx hx' => DZ.out x hx (by simp at hx'; subst hx'; simp))
  ·exact fresh_mono FZ.out (by omega) (by simp)
  ·exact Below.chg hb (S := [w.heap.size + 1 + 1]) (by repeat' (with_reducible first | exact Chg.refl _ _ | refine qC ?_)) hb.size (fun x hx => by simp at hx; omega)
open Go.RowKit
open Go.RowKit
def runStep (st : Th × List Int) (a : RAct) : Th × List Int := ((doF st.1 a).1, st.2 ++ [(doF st.1 a).2])
def runFrom (t : Th) (acts : List RAct) : Th × List Int := acts.foldl runStep (t, [])
def actsF (t : Th) (acts : List RAct) : Th × List Int := if t.ok = true ∧ acts.length ≤ 40 then runFrom t acts else (t, [])
theorem actsF_t {t : Th} {acts : List RAct} (h1 : t.ok = true) (h2 : acts.length ≤ 40) : actsF t acts = runFrom t acts := if_pos ⟨h1, h2⟩
theorem actsF_f {t : Th} {acts : List RAct} (h : ¬ (t.ok = true ∧ acts.length ≤ 40)) : actsF t acts = (t, []) := if_neg h
theorem runFrom_succ (t : Th) (acts : List RAct) {k : Nat} (h : k < acts.length) : runFrom t (acts.take (k + 1)) = runStep (runFrom t (acts.take k)) acts[k] := foldl_take_succ _ _ acts h
theorem run_sz (t : Th) (acts : List RAct) : ∀ k, k ≤ acts.length → ((runFrom t (acts.take k)).1.sz ≤ t.sz ∨ (runFrom t (acts.take k)).1.sz ≤ 148) ∧ (runFrom t (acts.take k)).2.length = k := by
 intro k
 induction k with
 | zero => intro _; exact ⟨.inl (Nat.le_refl _), rfl⟩
 | succ k ih =>
  intro hk
  obtain ⟨h1, h2⟩ := ih (by omega)
  rw [runFrom_succ t acts (by omega)]
  refine ⟨?_, by unfold runStep; rw [List.length_append, h2]; rfl⟩
  have := do_sz (runFrom t (acts.take k)).1 (acts[k]'(by omega))
  show (doF (runFrom t (acts.take k)).1 (acts[k]'(by omega))).1.sz ≤ t.sz ∨ (doF (runFrom t (acts.take k)).1 (acts[k]'(by omega))).1.sz ≤ 148
  rcases this with h | h
  ·rcases h1 with h1 | h1
   ·exact .inl (by omega)
   ·exact .inr (by omega)
  ·exact .inr h
theorem actsF_sz (t : Th) (acts : List RAct) : ((actsF t acts).1.sz ≤ t.sz ∨ (actsF t acts).1.sz ≤ 148) ∧ (actsF t acts).2.length ≤ 40 := by
 by_cases h : t.ok = true ∧ acts.length ≤ 40
 ·rw [actsF_t h.1 h.2]
  have := run_sz t acts acts.length (Nat.le_refl _)
  rw [List.take_length] at this
  exact ⟨this.1, by have := h.2; omega⟩
 ·rw [actsF_f h]; exact ⟨.inl (Nat.le_refl _), by simp⟩
def RetTI (B : Nat) (n m : Int) (cs : List RCross) (pl : List RPl) (ds ns : List Int) (w : World) (e : Ending) (w' : World) : Prop :=
 ∃ x1 x2 x3 S v SN, e = .returned (.tuple #[.agg #[.int .i64 n, x1, x2, x3, .int .i64 m], v]) ∧ OwTheatre w' S x1 x2 x3 cs pl ds ∧ Fresh B w' S ∧ OwL 3 cInt 1 w' SN v ns ∧ Fresh B w' SN ∧ (∀ b ∈ S, b ∉ SN) ∧ Below w.heap.size w w'
def RetRun (B : Nat) (r : Th × List Int) : World → Ending → World → Prop := RetTI B r.1.n r.1.m r.1.cs r.1.pl r.1.ds r.2
theorem run_eq {B : Nat} {r : Th × List Int} {n m : Int} {cs : List RCross} {pl : List RPl} {ds ns : List Int} {w w' : World} {e : Ending} (h : r = (⟨n, m, cs, pl, ds⟩, ns)) (hr : RetTI B n m cs pl ds ns w e w') : RetRun B r w e w' := by rw [h]; exact hr
structure RunSt (w : World) (B go gr : Nat) (t : Th) (ns : List Int) (x1 x2 x3 v : Value) (W : World) : Prop where
 lo : Loc W go [.int .i64 t.n, x1, x2, x3, .int .i64 t.m]
 lr : Loc W gr [.int .i64 0, .slice none 0 0, .slice none 0 0, .slice none 0 0, .int .i64 0]
 own : ∃ S, OwTheatre W S x1 x2 x3 t.cs t.pl t.ds ∧ Fresh B W S ∧ ∀ b ∈ S, b ≠ go ∧ b ∉ v.ownBlock.toList
 nums : W.ownsRow B 3 1 v ns.length (ns.flatMap cInt)
 ne : go ∉ v.ownBlock.toList
 below : Below w.heap.size w W
 base : (w.heap.size ≤ gr ∧ gr < B) ∧ B ≤ go ∧ go < W.heap.size
section
variable {w W W1 W' : World} {B go gr : Nat} {t t' : Th} {ns : List Int} {x1 x2 x3 z1 z2 z3 v v' : Value}
theorem RunSt.rd (h : RunSt w B go gr t ns x1 x2 x3 v W) : RdTheatre W x1 x2 x3 t.cs t.pl t.ds := by obtain ⟨S, h1, _⟩ := h.own; exact h1.rd
theorem RunSt.keep (h : RunSt w B go gr t ns x1 x2 x3 v W) (hb : Below W.heap.size W W') : RunSt w B go gr t ns x1 x2 x3 v W' := by
 obtain ⟨S, h1, h2, h3⟩ := h.own
 exact ⟨h.lo.below hb, h.lr.below hb, ⟨S, h1.below hb, fresh_mono h2 (Nat.le_refl _) hb.size, h3⟩, own_below h.nums hb, h.ne, bl_trans h.below hb, h.base.1, h.base.2.1, Nat.lt_of_lt_of_le h.base.2.2 hb.size⟩
theorem RunSt.next {T : List Nat} (h : RunSt w B go gr t ns x1 x2 x3 v W) (hb : Below W.heap.size W W') (ho : OwTheatre W' T z1 z2 z3 t'.cs t'.pl t'.ds) (hf : Fresh W.heap.size W' T) :
  RunSt w B go gr t' ns z1 z2 z3 v (((((W'.setCell ⟨go, 0, none⟩ (.int .i64 t'.n)).setCell ⟨go, 1, none⟩ z1).setCell ⟨go, 2, none⟩ z2).setCell ⟨go, 3, none⟩ z3).setCell ⟨go, 4, none⟩ (.int .i64 t'.m)) := by
 have hbs := h.base
 have hch : Chg [go] W' (((((W'.setCell ⟨go, 0, none⟩ (.int .i64 t'.n)).setCell ⟨go, 1, none⟩ z1).setCell ⟨go, 2, none⟩ z2).setCell ⟨go, 3, none⟩ z3).setCell ⟨go, 4, none⟩ (.int .i64 t'.m)) := by repeat' (with_reducible first | exact Chg.refl _ _ | refine qC ?_)
 have h1 := h.keep hb
 have hbw := h.below.size
 refine ⟨((((h1.lo.set (i := 0) (u := .int .i64 t'.n) rfl).set (i := 1) (u := z1) rfl).set (i := 2) (u := z2) rfl).set (i := 3) (u := z3) rfl).set (i := 4) (u := .int .i64 t'.m) rfl, h1.lr.chg hch (by simp; omega),
  ⟨T, ho.chg hch (fun b hm hm' => by have := (hf.2 b hm).1; simp at hm'; omega), fresh_mono hf (by omega) hch.size, fun b hm => ⟨by have := (hf.2 b hm).1; omega, fun hm' => by have := (hf.2 b hm).1; have := (h.nums.lt b (by simpa using hm')).2; omega⟩⟩,
  own_chg h1.nums hch (fun b hm hm' => by simp at hm'; subst hm'; exact h.ne hm), h.ne, Below.chg h1.below hch h1.below.size (by simp; omega), hbs.1, hbs.2.1, Nat.lt_of_lt_of_le h1.base.2.2 hch.size⟩
theorem RunSt.app {k : Int} (h : RunSt w B go gr t ns x1 x2 x3 v W) (hown : W'.ownsRow B 3 1 v' (ns.length + 1) (ns.flatMap cInt ++ [.int .i64 k])) (hgr : W.grownBy W' v.ownBlock) (hat : v'.ownBlock = v.ownBlock ∨ v'.ownBlock = some W.heap.size) :
  RunSt w B go gr t (ns ++ [k]) x1 x2 x3 v' W' := by
 obtain ⟨S, h1, h2, h3⟩ := h.own
 have hbs := h.base
 have hch := Chg.of_grown hgr
 have hv : ∀ b ∈ v'.ownBlock.toList, b ∈ v.ownBlock.toList ∨ b = W.heap.size := fun b hb => by
  rcases hat with e | e
  ·rw [e] at hb; exact .inl hb
  ·rw [e] at hb; simp at hb; exact .inr hb
 have hvB : ∀ b ∈ v.ownBlock.toList, B ≤ b := fun b hb => (h.nums.lt b (by simpa using hb)).1
 refine ⟨h.lo.chg hch h.ne, h.lr.chg hch (fun hm => by have := hvB _ hm; omega), ⟨S, h1.chg hch (fun b hb hb' => (h3 b hb).2 hb'), fresh_mono h2 (Nat.le_refl _) hgr.size, fun b hb => ⟨(h3 b hb).1, fun hm => ?_⟩⟩,
  by rw [List.length_append, List.flatMap_append]; exact hown, fun hm => ?_, Below.chg h.below hch h.below.size (fun b hb => by have := hvB b hb; omega), hbs.1, hbs.2.1, Nat.lt_of_lt_of_le hbs.2.2 hgr.size⟩
 ·rcases hv b hm with e | e
  ·exact (h3 b hb).2 e
  ·have := (h2.2 b hb).2; omega
 ·rcases hv go hm with e | e
  ·exact h.ne e
  ·omega
end
set_option maxHeartbeats 8000000 in
set_option maxRecDepth 100000 in
theorem implRunActs_any (n m : Int) (v1 v2 v3 va : Value) (cs : List RCross) (pl : List RPl) (ds : List Int) (acts : List RAct) (w : World) (h : RdTheatre w v1 v2 v3 cs pl ds) (ha : RdL cAct 3 w va acts) (hsz : szTheatre cs pl ds ≤ 1048576) :
  Calls Tryz.prog 7 #[.agg #[.int .i64 n, v1, v2, v3, .int .i64 m], va] w (RetRun w.heap.size (actsF ⟨n, m, cs, pl, ds⟩ acts) w) := by
 obtain ⟨⟨A1, n1, rfl⟩, ⟨A2, n2, rfl⟩, ⟨A3, n3, rfl⟩⟩ := h.forms
 obtain ⟨Ac, cc, rfl, hac, hacc⟩ := ha.form
 obtain ⟨i0, hi0, hz0', hz1', hz2'⟩ := info_parts infoInt
 go_enter Tryz.func7, Tryz.ntmps7
 go_wp2_with fail
 refine (theatreCopied_any n m _ _ _ cs pl ds _ (h.below (by (repeat' (with_reducible first | exact Below.refl _ _ | assumption | refine qS ?_ _ | refine qA ?_ _ | refine qD ?_ | refine qN ?_ _)))) hsz).mono ?_
 rintro e W1 ⟨x1, x2, x3, S, rfl, ow, f1, q⟩
 obtain ⟨⟨B1, k1, rfl⟩, ⟨B2, k2, rfl⟩, ⟨B3, k3, rfl⟩⟩ := ow.rd.forms
 have Lc : Loc W1 (w.heap.size) [.int .i64 n, .slice A1 cs.length n1, .slice A2 pl.length n2, .slice A3 ds.length n3, .int .i64 m] := by have := ((Loc.new w #[.int .i64 n, .slice A1 cs.length n1, .slice A2 pl.length n2, .slice A3 ds.length n3, .int .i64 m] 30).alloc _).below q; simpa using this
 have Lr : Loc W1 (w.heap.size + 1) [.int .i64 0, .slice none 0 0, .slice none 0 0, .slice none 0 0, .int .i64 0] := by have := (Loc.new (w.alloc (.cells #[.int .i64 n, .slice A1 cs.length n1, .slice A2 pl.length n2, .slice A3 ds.length n3, .int .i64 m] 30)) #[.int .i64 0, .slice none 0 0, .slice none 0 0, .slice none 0 0, .int .i64 0] 30).below q; simpa using this
 have hb : Below w.heap.size w W1 := Below.trans (by (repeat' (with_reducible first | exact Below.refl _ _ | assumption | refine qS ?_ _ | refine qA ?_ _ | refine qD ?_ | refine qN ?_ _))) (q.mono (by simp <;> omega))
 have hz0 : w.heap.size + 1 + 1 ≤ W1.heap.size := by have := q.size; simp at this; omega
 have hlow : w.heap.size + 1 + 1 ≤ (((w.alloc (.cells #[.int .i64 n, .slice A1 cs.length n1, .slice A2 pl.length n2, .slice A3 ds.length n3, .int .i64 m] 30)).alloc (.cells #[.int .i64 0, .slice none 0 0, .slice none 0 0, .slice none 0 0, .int .i64 0] 30))).heap.size := by first | exact Nat.le_refl _ | (simp; done) | (simp; omega) | omega
 have FK := Lib.hid (fresh_mono f1 hlow (Nat.le_refl _))
 have DK : Hid (∀ x ∈ S, x ∉ [w.heap.size, w.heap.size + 1]) := (fun x hx => by have := (FK.out.2 x hx).1; simp; omega)
 have OK := Lib.hid ow
 clear ow f1 hlow
 clear q
 go_upto_region 2 with (fail)
 replace Lc : Loc (W1.alloc (.cells #[.int .i64 n, .slice B1 cs.length k1, .slice B2 pl.length k2, .slice B3 ds.length k3, .int .i64 m] 30)) (w.heap.size) [.int .i64 n, .slice A1 cs.length n1, .slice A2 pl.length n2, .slice A3 ds.length n3, .int .i64 m] := Lc.alloc _
 replace Lr : Loc (W1.alloc (.cells #[.int .i64 n, .slice B1 cs.length k1, .slice B2 pl.length k2, .slice B3 ds.length k3, .int .i64 m] 30)) (w.heap.size + 1) [.int .i64 0, .slice none 0 0, .slice none 0 0, .slice none 0 0, .int .i64 0] := Lr.alloc _
 obtain ⟨go, hgo⟩ : ∃ g, W1.heap.size = g := ⟨_, rfl⟩
 have Lo : Loc (W1.alloc (.cells #[.int .i64 n, .slice B1 cs.length k1, .slice B2 pl.length k2, .slice B3 ds.length k3, .int .i64 m] 30)) W1.heap.size [.int .i64 n, .slice B1 cs.length k1, .slice B2 pl.length k2, .slice B3 ds.length k3, .int .i64 m] := Loc.new W1 #[.int .i64 n, .slice B1 cs.length k1, .slice B2 pl.length k2, .slice B3 ds.length k3, .int .i64 m] 30
 rw [hgo] at Lo
 replace OK := Lib.hid (OK.out.below (w' := (W1.alloc (.cells #[.int .i64 n, .slice B1 cs.length k1, .slice B2 pl.length k2, .slice B3 ds.length k3, .int .i64 m] 30))) ((Below.refl _ _).alloc (Nat.le_refl _) _))
 replace DK : Hid (∀ x ∈ S, x ∉ [w.heap.size, w.heap.size + 1, go]) := (fun x hx => by have := DK.out x hx; have := (FK.out.2 x hx).2; simp at *; omega)
 replace FK := Lib.hid (fresh_mono (w' := (W1.alloc (.cells #[.int .i64 n, .slice B1 cs.length k1, .slice B2 pl.length k2, .slice B3 ds.length k3, .int .i64 m] 30))) FK.out (Nat.le_refl _) (by simp))
 replace hb : Below w.heap.size w (W1.alloc (.cells #[.int .i64 n, .slice B1 cs.length k1, .slice B2 pl.length k2, .slice B3 ds.length k3, .int .i64 m] 30)) := hb.alloc hb.size _
 have hlto : go < (W1.alloc (.cells #[.int .i64 n, .slice B1 cs.length k1, .slice B2 pl.length k2, .slice B3 ds.length k3, .int .i64 m] 30)).heap.size := by simp; omega
 have hne_c_o : w.heap.size < go := by omega
 have hne_r_o : w.heap.size + 1 < go := by omega
 generalize W1.alloc (.cells #[.int .i64 n, .slice B1 cs.length k1, .slice B2 pl.length k2, .slice B3 ds.length k3, .int .i64 m] 30) = W2 at *
 rw [hgo]
 clear hgo
 have c0 := (Lc 0 _ rfl).1
 have c1 := (Lc 1 _ rfl).1
 have c2 := (Lc 2 _ rfl).1
 have c3 := (Lc 3 _ rfl).1
 have c4 := (Lc 4 _ rfl).1
 go_wp2_with fail
 refine twoB (implTheatreOk_any n m _ _ _ cs pl ds _ (h.below hb)) (fun W3 hq q => ?_) (fun W3 hq q => ?_)
 ·skip
  clear c0 c1 c2 c3 c4
  have hzq : W2.heap.size ≤ W3.heap.size := by have := q.size; (try simp at this); omega
  replace Lc := Lc.below q
  replace Lr := Lr.below q
  replace Lo := Lo.below q
  replace OK := Lib.hid (OK.out.below q)
  replace FK := Lib.hid (fresh_mono (w' := W3) FK.out (Nat.le_refl _) hzq)
  replace hb : Below w.heap.size w W3 := hb.trans (q.mono hb.size)
  clear q
  by_cases hl40 : 40 < acts.length
  ·skip
   have hd40 : decide ((40 : Int) < (acts.length : Int)) = true := decide_eq_true (by omega)
   have o0 := (Lo 0 _ rfl).1
   have o1 := (Lo 1 _ rfl).1
   have o2 := (Lo 2 _ rfl).1
   have o3 := (Lo 3 _ rfl).1
   have o4 := (Lo 4 _ rfl).1
   have r0 := (Lr 0 _ rfl).1
   have rf0 := (Lr 0 _ rfl).2
   have r1 := (Lr 1 _ rfl).1
   have rf1 := (Lr 1 _ rfl).2
   have r2 := (Lr 2 _ rfl).1
   have rf2 := (Lr 2 _ rfl).2
   have r3 := (Lr 3 _ rfl).1
   have rf3 := (Lr 3 _ rfl).2
   have r4 := (Lr 4 _ rfl).1
   have rf4 := (Lr 4 _ rfl).2
   go_wp2_with fail
   refine bodyPost_ret (v := .tuple #[.agg #[.int .i64 n, .slice B1 cs.length k1, .slice B2 pl.length k2, .slice B3 ds.length k3, .int .i64 m], .slice none 0 0]) (by simp [results, Tryz.results7, go_sem, *]) rfl (run_eq (actsF_f (fun hh => by have := hh.2; omega)) ⟨_, _, _, S, _, [], rfl, ?_, ?_, ⟨World.ownsRow_nil _ _ _ _, rfl⟩, ⟨by simp, by simp⟩, by simp, ?_⟩)
   ·exact OK.out.chg (T := [w.heap.size + 1]) (by repeat' (with_reducible first | exact Chg.refl _ _ | refine qC ?_)) (fun x hx hx' => DK.out x hx (by simp at hx'; subst hx'; simp))
   ·exact fresh_mono FK.out (by omega) (by simp)
   ·exact Below.chg hb (S := [w.heap.size + 1]) (by repeat' (with_reducible first | exact Chg.refl _ _ | refine qC ?_)) hb.size (fun x hx => by simp at hx; omega)
  ·skip
   have hd40 : decide ((40 : Int) < (acts.length : Int)) = false := decide_eq_false (by omega)
   have HQ := hq
   have hrb := ha.below hb
   have hst0 : RunSt w (w.heap.size + 1 + 1) go (w.heap.size + 1) ⟨n, m, cs, pl, ds⟩ [] (.slice B1 cs.length k1) (.slice B2 pl.length k2) (.slice B3 ds.length k3) (.slice (some ⟨W3.heap.size, 0, none⟩) 0 0) (W3.alloc (.cells #[] 3)) := by
    have hal : Below W3.heap.size W3 (W3.alloc (.cells #[] 3)) := (Below.refl _ _).alloc (Nat.le_refl _) _
    exact ⟨Lo.below hal, Lr.below hal, ⟨S, OK.out.below hal, fresh_mono FK.out (Nat.le_refl _) hal.size, fun b hb' => ⟨fun e => DK.out b hb' (by subst e; simp), fun hm => by have := (FK.out.2 b hb').2; simp [Value.ownBlock] at hm; omega⟩⟩, World.ownsRow_made (size := 1) (e := 3) W3 #[] 0 (by omega) (by simp [maxLen]) rfl, by simp [Value.ownBlock]; omega, bl_trans hb hal, ⟨by omega, by omega⟩, by omega, by have := hal.size; omega⟩
   clear Lc Lr Lo OK FK DK
   go_wp2_with fail
   go_loopw [7, 26] (fun q i wr => ∃ (k : Nat) (t1 : Th) (ns : List Int) (Y1 : Option Addr) (y1 : Nat) (Y2 : Option Addr) (y2 : Nat) (Y3 : Option Addr) (y3 : Nat) (v : Value), k ≤ acts.length ∧ i = .int .i64 k ∧ Hid (runFrom ⟨n, m, cs, pl, ds⟩ (acts.take k) = (t1, ns)) ∧ RunSt w (w.heap.size + 1 + 1) go (w.heap.size + 1) t1 ns (.slice Y1 t1.cs.length y1) (.slice Y2 t1.pl.length y2) (.slice Y3 t1.ds.length y3) v wr ∧ q = v) (fun _ i _ => acts.length - (intOf i).toNat)
   case atStart => exact ⟨0, ⟨n, m, cs, pl, ds⟩, [], _, _, _, _, _, _, _, Nat.zero_le _, rfl, rfl, hst0, rfl⟩
   case round =>
    obtain ⟨k, t1, ns, Y1, y1, Y2, y2, Y3, y3, v, hk, rfl, hrf, hst, rfl⟩ := hrel
    clear hst0
    obtain ⟨Av, cv, rfl, _, _⟩ := (RdS.of_own hst.nums).form
    have HZ : Hid ((szTheatre t1.cs t1.pl t1.ds ≤ szTheatre cs pl ds ∨ szTheatre t1.cs t1.pl t1.ds ≤ 148) ∧ ns.length = k) := by have := run_sz ⟨n, m, cs, pl, ds⟩ acts k hk; rw [hrf.out] at this; exact this
    have hnk : ns.length = k := HZ.out.2
    have hns40 : ns.length ≤ 40 := by omega
    clear hnk
    by_cases hlt : k < acts.length
    ·skip
     obtain ⟨g, off, rfl, hg, hcell⟩ := (ha.below hst.below).cell cAct_len (by omega) hlt
     have a0 := hcell 0 _ rfl
     have a1 := hcell 1 _ rfl
     have a2 := hcell 2 _ rfl
     simp only [Nat.add_zero] at a0 a1 a2
     clear hcell
     have HSU := Lib.hid (runFrom_succ ⟨n, m, cs, pl, ds⟩ acts hlt)
     obtain ⟨⟨ka, aa, ba⟩, hact⟩ : ∃ a, acts[k] = a := ⟨_, rfl⟩
     rw [hact] at a0 a1 a2
     have HACT := Lib.hid hact
     clear hact
     obtain ⟨n1', m1', cs1, pl1, ds1⟩ := t1
     obtain ⟨⟨⟨rn, rm, rcs, rpl, rds⟩, rk⟩, hres⟩ : ∃ r, doF ⟨n1', m1', cs1, pl1, ds1⟩ (ka, aa, ba) = r := ⟨_, rfl⟩
     have hX : Hid (∀ W, RdTheatre W (.slice Y1 cs1.length y1) (.slice Y2 pl1.length y2) (.slice Y3 ds1.length y3) cs1 pl1 ds1 → Calls Tryz.prog 17 #[.agg #[.int .i64 n1', .slice Y1 cs1.length y1, .slice Y2 pl1.length y2, .slice Y3 ds1.length y3, .int .i64 m1'], .agg #[.int .i64 ka, .int .i64 aa, .int .i64 ba]] W (RetTN W.heap.size rn rm rk rcs rpl rds W)) := fun W hr => by
      have := implDoAct_any n1' m1' ka aa ba _ _ _ cs1 pl1 ds1 W hr (by have h1 := HZ.out.1; simp only at h1; omega)
      rw [hres] at this
      exact this
     have HN : Hid (runFrom ⟨n, m, cs, pl, ds⟩ (acts.take (k + 1)) = (⟨rn, rm, rcs, rpl, rds⟩, ns ++ [rk])) := by show _ = _; rw [HSU.out, hrf.out, HACT.out]; unfold runStep; rw [hres]
     clear hres
     go_upto_region 8 with (fail)
     have halA : Below wr.heap.size wr (wr.alloc (.cells #[.int .i64 ka, .int .i64 aa, .int .i64 ba] 49)) := (Below.refl _ _).alloc (Nat.le_refl _) _
     have hstA := hst.keep halA
     have La : Loc (wr.alloc (.cells #[.int .i64 ka, .int .i64 aa, .int .i64 ba] 49)) wr.heap.size [.int .i64 ka, .int .i64 aa, .int .i64 ba] := Loc.new wr #[.int .i64 ka, .int .i64 aa, .int .i64 ba] 49
     obtain ⟨ga, hga⟩ : ∃ g, wr.heap.size = g := ⟨_, rfl⟩
     rw [hga] at La
     clear a0 a1 a2 hst
     generalize wr.alloc (.cells #[.int .i64 ka, .int .i64 aa, .int .i64 ba] 49) = wa at *
     (try rw [hga])
     clear halA hga
     have o0 := (hstA.lo 0 _ rfl).1
     have o1 := (hstA.lo 1 _ rfl).1
     have o2 := (hstA.lo 2 _ rfl).1
     have o3 := (hstA.lo 3 _ rfl).1
     have o4 := (hstA.lo 4 _ rfl).1
     have a0 := (La 0 _ rfl).1
     have a1 := (La 1 _ rfl).1
     have a2 := (La 2 _ rfl).1
     simp only at o0 o1 o2 o3 o4
     go_wp2_with fail
     refine (hX.out _ hstA.rd).mono ?_
     rintro e w5 ⟨z1, z2, z3, T, rfl, owr, fr, q⟩
     obtain ⟨⟨Z1, e1, rfl⟩, ⟨Z2, e2, rfl⟩, ⟨Z3, e3, rfl⟩⟩ := owr.rd.forms
     clear o0 o1 o2 o3 o4 a0 a1 a2
     go_upto_region 9 with (fail)
     have halB : Below w5.heap.size w5 (w5.alloc (.cells #[.int .i64 rn, .slice Z1 rcs.length e1, .slice Z2 rpl.length e2, .slice Z3 rds.length e3, .int .i64 rm] 30)) := (Below.refl _ _).alloc (Nat.le_refl _) _
     have Lb : Loc (w5.alloc (.cells #[.int .i64 rn, .slice Z1 rcs.length e1, .slice Z2 rpl.length e2, .slice Z3 rds.length e3, .int .i64 rm] 30)) w5.heap.size [.int .i64 rn, .slice Z1 rcs.length e1, .slice Z2 rpl.length e2, .slice Z3 rds.length e3, .int .i64 rm] := Loc.new w5 #[.int .i64 rn, .slice Z1 rcs.length e1, .slice Z2 rpl.length e2, .slice Z3 rds.length e3, .int .i64 rm] 30
     have q2 := bl_trans q halB
     have owr2 := owr.below halB
     have fr2 := fresh_mono fr (Nat.le_refl _) halB.size
     obtain ⟨gb, hgb⟩ : ∃ g, w5.heap.size = g := ⟨_, rfl⟩
     rw [hgb] at Lb
     generalize w5.alloc (.cells #[.int .i64 rn, .slice Z1 rcs.length e1, .slice Z2 rpl.length e2, .slice Z3 rds.length e3, .int .i64 rm] 30) = wb at *
     (try rw [hgb])
     clear q owr fr halB hgb
     have lo2 := hstA.lo.below q2
     have o0 := (lo2 0 _ rfl).1
     have o1 := (lo2 1 _ rfl).1
     have o2 := (lo2 2 _ rfl).1
     have o3 := (lo2 3 _ rfl).1
     have o4 := (lo2 4 _ rfl).1
     have f0 := (lo2 0 _ rfl).2
     have f1 := (lo2 1 _ rfl).2
     have f2 := (lo2 2 _ rfl).2
     have f3 := (lo2 3 _ rfl).2
     have f4 := (lo2 4 _ rfl).2
     have b0 := (Lb 0 _ rfl).1
     have b1 := (Lb 1 _ rfl).1
     have b2 := (Lb 2 _ rfl).1
     have b3 := (Lb 3 _ rfl).1
     have b4 := (Lb 4 _ rfl).1
     simp only at o0 o1 o2 o3 o4
     have HST9 := Lib.hid (hstA.next (t' := ⟨rn, rm, rcs, rpl, rds⟩) q2 owr2 fr2)
     clear owr2 fr2
     go_upto_region 10 with (fail)
     have hst9 := HST9.out
     simp only at hst9
     clear lo2 o0 o1 o2 o3 o4 f0 f1 f2 f3 f4 b0 b1 b2 b3 b4 HST9 hstA Lb La q2
     generalize ((((wb.setCell ⟨go, 0, none⟩ (.int .i64 rn)).setCell ⟨go, 1, none⟩ (.slice Z1 rcs.length e1)).setCell ⟨go, 2, none⟩ (.slice Z2 rpl.length e2)).setCell ⟨go, 3, none⟩ (.slice Z3 rds.length e3)).setCell ⟨go, 4, none⟩ (.int .i64 rm) = w9 at *
     have hn9 := hst9.nums
     have hz9 := hst9.below.size
     go_wp2_with (at_builtin; go_must (refine wpList_appendB _ rfl (.tmp 37) (.tmp 39) _ rfl (w.heap.size + 1 + 1) 3 i0 _ 1 8 Tryz.underlying28 hi0 hz0' hz1' hz2' rfl (by omega) _ ns.length (ns.flatMap cInt) rfl (hn9.alloc _) _ 1 [.int .i64 rk] rfl (rdS_new w9 #[.int .i64 rk] _ 1 1 rfl (by simp [maxLen])) (by simp [Value.oneCell']) (by simp [maxLen]; omega) (by omega) (by have := hst9.base; simp; omega) ?_); intro v3 w3 own3 gr3 at3; obtain ⟨A3, c3, rfl, _, _⟩ := (RdS.of_own own3).form)
     have hstN := (hst9.keep ((Below.refl _ _).alloc (Nat.le_refl _) (.cells #[.int .i64 rk] 3))).app (k := rk) own3 gr3 at3
     go_wp2_with fail
     go_roundw
     case rel => exact ⟨k + 1, ⟨rn, rm, rcs, rpl, rds⟩, ns ++ [rk], _, _, _, _, _, _, _, by omega, by go_num, HN.out, hstN, rfl⟩
     case measure => simp [intOf]; omega
    ·skip
     obtain rfl : k = acts.length := by omega
     have HF : Hid (actsF ⟨n, m, cs, pl, ds⟩ acts = (t1, ns)) := by show _ = _; rw [actsF_t (t := ⟨n, m, cs, pl, ds⟩) HQ.out (by omega), ← hrf.out, List.take_length]
     obtain ⟨n1', m1', cs1, pl1, ds1⟩ := t1
     have o0 := (hst.lo 0 _ rfl).1
     have o1 := (hst.lo 1 _ rfl).1
     have o2 := (hst.lo 2 _ rfl).1
     have o3 := (hst.lo 3 _ rfl).1
     have o4 := (hst.lo 4 _ rfl).1
     have r0 := (hst.lr 0 _ rfl).1
     have r1 := (hst.lr 1 _ rfl).1
     have r2 := (hst.lr 2 _ rfl).1
     have r3 := (hst.lr 3 _ rfl).1
     have r4 := (hst.lr 4 _ rfl).1
     have rf0 := (hst.lr 0 _ rfl).2
     have rf1 := (hst.lr 1 _ rfl).2
     have rf2 := (hst.lr 2 _ rfl).2
     have rf3 := (hst.lr 3 _ rfl).2
     have rf4 := (hst.lr 4 _ rfl).2
     have hbs := hst.base
     obtain ⟨S9, ow9, fr9, dj9⟩ := hst.own
     have hnums := hst.nums
     have hbel := hst.below
     have OW := Lib.hid ow9
     have FR := Lib.hid fr9
     have DJ := Lib.hid dj9
     have HNU := Lib.hid hnums
     have hnv : ∀ b ∈ (Value.slice Av ns.length cv).ownBlock.toList, w.heap.size + 1 + 1 ≤ b ∧ b < wr.heap.size := fun b hb => hnums.lt b (by simpa using hb)
     have HNV := Lib.hid hnv
     clear ow9 fr9 dj9 hnums hnv hst HZ hrf
     simp only at o0 o1 o2 o3 o4
     go_wp2_with fail
     have hch : Chg [w.heap.size + 1] wr (((((wr.setCell ⟨w.heap.size + 1, 0, none⟩ (.int .i64 n1')).setCell ⟨w.heap.size + 1, 1, none⟩ (.slice Y1 cs1.length y1)).setCell ⟨w.heap.size + 1, 2, none⟩ (.slice Y2 pl1.length y2)).setCell ⟨w.heap.size + 1, 3, none⟩ (.slice Y3 ds1.length y3)).setCell ⟨w.heap.size + 1, 4, none⟩ (.int .i64 m1')) := by repeat' (with_reducible first | exact Chg.refl _ _ | refine qC ?_)
     refine bodyPost_ret (v := .tuple #[.agg #[.int .i64 n1', .slice Y1 cs1.length y1, .slice Y2 pl1.length y2, .slice Y3 ds1.length y3, .int .i64 m1'], .slice Av ns.length cv]) (by simp [results, Tryz.results7, go_sem, *]) rfl (run_eq HF.out ⟨_, _, _, S9, _, _, rfl, OW.out.chg hch (fun b hb hb' => by have := (FR.out.2 b hb).1; simp at hb'; omega), fresh_mono FR.out (by omega) hch.size, ⟨own_mono (own_chg HNU.out hch (fun b hb hb' => by have := HNV.out b hb; simp at hb'; omega)) (Nat.zero_le _), rfl⟩, ⟨by cases Av <;> simp [Value.ownBlock], fun b hb => by have := HNV.out b hb; have := hch.size; omega⟩, fun b hb => (DJ.out b hb).2, Below.chg hbel hch hbel.size (by simp)⟩)
 ·skip
  clear c0 c1 c2 c3 c4
  have hzq : W2.heap.size ≤ W3.heap.size := by have := q.size; (try simp at this); omega
  replace Lc := Lc.below q
  replace Lr := Lr.below q
  replace Lo := Lo.below q
  replace OK := Lib.hid (OK.out.below q)
  replace FK := Lib.hid (fresh_mono (w' := W3) FK.out (Nat.le_refl _) hzq)
  replace hb : Below w.heap.size w W3 := hb.trans (q.mono hb.size)
  clear q
  have o0 := (Lo 0 _ rfl).1
  have o1 := (Lo 1 _ rfl).1
  have o2 := (Lo 2 _ rfl).1
  have o3 := (Lo 3 _ rfl).1
  have o4 := (Lo 4 _ rfl).1
  have r0 := (Lr 0 _ rfl).1
  have rf0 := (Lr 0 _ rfl).2
  have r1 := (Lr 1 _ rfl).1
  have rf1 := (Lr 1 _ rfl).2
  have r2 := (Lr 2 _ rfl).1
  have rf2 := (Lr 2 _ rfl).2
  have r3 := (Lr 3 _ rfl).1
  have rf3 := (Lr 3 _ rfl).2
  have r4 := (Lr 4 _ rfl).1
  have rf4 := (Lr 4 _ rfl).2
  go_wp2_with fail
  refine bodyPost_ret (v := .tuple #[.agg #[.int .i64 n, .slice B1 cs.length k1, .slice B2 pl.length k2, .slice B3 ds.length k3, .int .i64 m], .slice none 0 0]) (by simp [results, Tryz.results7, go_sem, *]) rfl (run_eq (actsF_f (fun hh => absurd (show theatreB n m cs pl ds = true from hh.1) (by rw [hq.out]; simp))) ⟨_, _, _, S, _, [], rfl, ?_, ?_, ⟨World.ownsRow_nil _ _ _ _, rfl⟩, ⟨by simp, by simp⟩, by simp, ?_⟩)
  ·exact OK.out.chg (T := [w.heap.size + 1]) (by repeat' (with_reducible first | exact Chg.refl _ _ | refine qC ?_)) (fun x hx hx' => DK.out x hx (by simp at hx'; subst hx'; simp))
  ·exact fresh_mono FK.out (by omega) (by simp)
  ·exact Below.chg hb (S := [w.heap.size + 1]) (by repeat' (with_reducible first | exact Chg.refl _ _ | refine qC ?_)) hb.size (fun x hx => by simp at hx; omega)
open Go.RowKit
theorem bec_ok {t u : Th} {ok : Bool} (h : t.ok = true) : (becF t u ok).1.ok = true := by
 unfold becF
 split
 ·rename_i h2; exact h2.2.2
 ·exact h
theorem bec_ok' {t u : Th} {ok : Bool} (h : t.ok = true) {r : Th × Bool} (e : r = becF t u ok) : r.1.ok = true := by
 subst e
 exact bec_ok h
theorem step_ok {t : Th} (h : t.ok = true) (a : RAct) : (stepF t a).1.ok = true := by
 unfold stepF
 split
 ·exact bec_ok' (r := hireF t a.2.1) h rfl
 split
 ·exact bec_ok' (r := teachT t a.2.1 a.2.2) h rfl
 split
 ·exact bec_ok' (r := moveF t a.2.1 true) h rfl
 split
 ·exact bec_ok' (r := moveF t a.2.1 false) h rfl
 split
 ·exact bec_ok' (r := putT t) h rfl
 split
 ·exact bec_ok' (r := showF t a.2.1) h rfl
 exact h
theorem do_ok {t : Th} (h : t.ok = true) (a : RAct) : (doF t a).1.ok = true := by
 unfold doF
 split
 ·exact step_ok h a
 ·exact h
theorem from_ok {t : Th} (h : t.ok = true) (acts : List RAct) : ∀ k, k ≤ acts.length → (runFrom t (acts.take k)).1.ok = true := by
 intro k
 induction k with
 | zero => intro _; exact h
 | succ k ih => intro hk; rw [runFrom_succ t acts (by omega)]; exact do_ok (ih (by omega)) _
theorem acts_ok {t : Th} (h : t.ok = true) {acts : List RAct} (hl : acts.length ≤ 40) : (actsF t acts).1.ok = true ∧ (actsF t acts).2.length = acts.length := by
 rw [actsF_t h hl]
 have h1 := from_ok h acts acts.length (Nat.le_refl _)
 have h2 := (run_sz t acts acts.length (Nat.le_refl _)).2
 rw [List.take_length] at h1 h2
 exact ⟨h1, h2⟩
end Go.Proofs.YteidpejjjphecaaGreatDoor

namespace Go.Proofs.YteidpejjjphecaaGreatDoor
theorem runFrom_pre (acts : List RAct) : ∀ (t : Th) (ns : List Int), acts.foldl runStep (t, ns) = ((runFrom t acts).1, ns ++ (runFrom t acts).2) := by
 induction acts with
 | nil => intro t ns; simp [runFrom]
 | cons a acts ih =>
  intro t ns
  have h1 := ih (doF t a).1 (ns ++ [(doF t a).2])
  have h2 := ih (doF t a).1 ([] ++ [(doF t a).2])
  show acts.foldl runStep (runStep (t, ns) a) = ((acts.foldl runStep (runStep (t, []) a)).1, ns ++ (acts.foldl runStep (runStep (t, []) a)).2)
  unfold runStep at h1 h2 ⊢
  rw [h1, h2]
  simp
theorem runFrom_app (t : Th) (a b : List RAct) : runFrom t (a ++ b) = ((runFrom (runFrom t a).1 b).1, (runFrom t a).2 ++ (runFrom (runFrom t a).1 b).2) := by
 unfold runFrom
 rw [List.foldl_append]
 exact runFrom_pre b _ _
theorem acts_parts {t : Th} {acts : List RAct} (h : t.ok = true) (hl : acts.length ≤ 40) (k : Nat) :
  (actsF (actsF t (acts.take k)).1 (acts.drop k)).1 = (actsF t acts).1 ∧ (actsF t (acts.take k)).2 ++ (actsF (actsF t (acts.take k)).1 (acts.drop k)).2 = (actsF t acts).2 := by
 have h1 : (acts.take k).length ≤ 40 := by rw [List.length_take]; omega
 have h2 : (acts.drop k).length ≤ 40 := by rw [List.length_drop]; omega
 have h3 := (acts_ok h h1).1
 rw [actsF_t h3 h2, actsF_t h h1, actsF_t h hl]
 have e := runFrom_app t (acts.take k) (acts.drop k)
 rw [List.take_append_drop] at e
 rw [e]
 exact ⟨rfl, rfl⟩
open Go.RowKit
theorem row_full {e : TypeId} {size : Nat} (w : World) (cs : Array Value) (n : Nat) (hs : cs.size = n * size) (hm : n ≤ maxLen) : (w.alloc (.cells cs e)).ownsRow w.heap.size e size (.slice (some ⟨w.heap.size, 0, none⟩) n n) n cs.toList :=
  ⟨by simpa using hs, .inr ⟨w.heap.size, n, cs, rfl, Nat.le_refl _, heap_alloc_new w _, Nat.le_refl _, hm, hs, by rw [← hs]; exact List.take_of_length_le (Nat.le_of_eq (by simp))⟩⟩
theorem with_co {n : Int} {cs l : List RCross} {pl : List RPl} (h : withB n cs pl l = true) : companyB n (withC n cs pl l) pl = true := by
  rw [withC, if_pos h]
  rw [withB, Bool.and_eq_true] at h
  exact h.2
theorem unt_co {n : Int} {cs : List RCross} {pl : List RPl} (h : untB n cs pl = true) : companyB n (untC n cs pl) pl = true := by
  rw [untC, if_pos h]
  rw [untB, Bool.and_eq_true] at h
  have := with_co h.2
  rwa [withC, if_pos h.2] at this
structure CoOk (n : Nat) (cs : List RCross) (pl : List RPl) : Prop where
  ok : companyB (n : Int) cs pl = true
  n2 : 2 ≤ n ∧ n ≤ 4
  len : 1 ≤ pl.length ∧ pl.length ≤ 5
  knows : ∀ r ∈ pl, strictB r.1 0 5 = true
theorem strict_up {l : List Int} {a b b' : Int} (h : strictB l a b = true) (hb : b ≤ b') : strictB l a b' = true := by
  rw [strictB, Bool.and_eq_true] at h ⊢
  exact ⟨h.1, List.all_eq_true.2 (fun x hx => inB_iff.2 (by have := inB_iff.1 (List.all_eq_true.1 h.2 x hx); omega))⟩
theorem pls_of_draw {pl : List RPl} (h : ∀ r ∈ pl, PlD r) (hl : 1 ≤ pl.length ∧ pl.length ≤ 5) : playersB pl = true := by
  rw [playersB, Bool.and_eq_true]
  refine ⟨List.all_eq_true.2 (fun r hr => ?_), inB_iff.2 (by omega)⟩
  obtain ⟨h1, h2⟩ := h r hr
  exact playerB_t (strict_up h1 (by omega)) (inB_iff.2 h2)
theorem CoOk.start {n : Nat} {cs : List RCross} {pl : List RPl} (hn : 2 ≤ n ∧ n ≤ 4) (hl : cs.length ≤ 9) (hc : ∀ t ∈ cs, 0 ≤ t.1 ∧ t.1 ≤ (n : Int) - 2) (hp : ∀ r ∈ pl, PlD r) (hpl : 1 ≤ pl.length ∧ pl.length ≤ 5) : CoOk n cs pl := by
  refine ⟨?_, hn, hpl, fun r hr => (hp r hr).1⟩
  rw [companyB, Bool.and_eq_true]
  exact ⟨crosses_t (inB_iff.2 (by omega)) (by omega) (List.all_eq_true.2 (fun t ht => inB_iff.2 (hc t ht))), pls_of_draw hp hpl⟩
theorem CoOk.go {n : Nat} {cs : List RCross} {pl : List RPl} (h : CoOk n cs pl) : CoOk n (goC n cs pl) pl := by
  refine ⟨?_, h.n2, h.len, h.knows⟩
  by_cases hb : withB n cs pl (homeL (n : Int) cs) = true
  · exact with_co hb
  · have : goC (n : Int) cs pl = cs := by unfold goC withC; rw [if_neg hb]
    rw [this]; exact h.ok
theorem CoOk.unt {n : Nat} {cs : List RCross} {pl : List RPl} (h : CoOk n cs pl) : CoOk n (untC n cs pl) pl := by
  refine ⟨?_, h.n2, h.len, h.knows⟩
  by_cases hb : untB (n : Int) cs pl = true
  · exact unt_co hb
  · have : untC (n : Int) cs pl = cs := by unfold untC; rw [if_neg hb]
    rw [this]; exact h.ok
theorem CoOk.four {n : Nat} {cs : List RCross} {r : RPl} {pl : List RPl} (h : CoOk n cs (r :: pl)) : CoOk n cs (([0, 1, 2, 3], 2) :: pl) := by
  have hok := h.ok
  rw [companyB, Bool.and_eq_true, playersB, Bool.and_eq_true, List.all_cons, Bool.and_eq_true] at hok
  refine ⟨?_, h.n2, by simpa using h.len, fun x hx => ?_⟩
  · rw [companyB, Bool.and_eq_true, playersB, Bool.and_eq_true, List.all_cons, Bool.and_eq_true]
    exact ⟨hok.1, ⟨by decide +kernel, hok.2.1.2⟩, by simpa using hok.2.2⟩
  · rcases List.mem_cons.1 hx with rfl | hx
    · decide +kernel
    · exact h.knows x (List.mem_cons_of_mem _ hx)
structure CoSt (w0 w : World) (g : Nat) (A : Option Addr) (c : Nat) (bs : List Int) (xb rb n : Nat) (x1 x2 : Value) (cs : List RCross) (pl : List RPl) (S : List Nat) (W : World) : Prop where
  box : BoxC w0 w g A c bs xb rb [.int .i64 n, x1, x2] [.int .i64 0, .slice none 0 0, .slice none 0 0] W
  own : OwCompany W S x1 x2 cs pl
  fr : Fresh w.heap.size W S
  ap : ∀ b ∈ S, b ∉ [g, xb, rb]
  base : (g < w.heap.size ∧ w.heap.size ≤ xb) ∧ (w.heap.size ≤ rb ∧ rb < xb) ∧ w0.heap.size ≤ w.heap.size
def CompanyPost (w0 w : World) (g : Nat) (A : Option Addr) (c : Nat) (bs : List Int) (e : Ending) (w' : World) : Prop :=
  ∃ (n : Nat) (cs : List RCross) (pl : List RPl) (x1 x2 : Value) (S : List Nat), e = .returned (.agg #[.int .i64 n, x1, x2]) ∧ OwCompany w' S x1 x2 cs pl ∧ Fresh w.heap.size w' S ∧ CoOk n cs pl ∧ Cur w0 w' g A c bs ∧ Chg [g] w w'
section
variable {w0 w W W' : World} {g : Nat} {A : Option Addr} {c : Nat} {bs : List Int} {xb rb n : Nat} {x1 x2 y1 y2 : Value} {cs cs' : List RCross} {pl pl' : List RPl} {S S' : List Nat}
theorem CoSt.draw (h : CoSt w0 w g A c bs xb rb n x1 x2 cs pl S W) (hc : Cur w0 W' g A c bs) (hch : Chg [g] W W') : CoSt w0 w g A c bs xb rb n x1 x2 cs pl S W' :=
  ⟨h.box.draw hc hch (by have := h.base; omega) (by have := h.base; omega), h.own.chg hch (fun b hb hb' => h.ap b hb (by simp at hb' ⊢; exact .inl hb')), fresh_mono h.fr (Nat.le_refl _) hch.size, h.ap, h.base⟩
theorem CoSt.lt (h : CoSt w0 w g A c bs xb rb n x1 x2 cs pl S W) : xb < W.heap.size := h.box.sz
theorem CoSt.next (h : CoSt w0 w g A c bs xb rb n x1 x2 cs pl S W) (hb : Below W.heap.size W W') (ho : OwCompany W' S' y1 y2 cs' pl') (hf : Fresh W.heap.size W' S') :
    CoSt w0 w g A c bs xb rb n y1 y2 cs' pl' S' (((W'.setCell ⟨xb, 0, none⟩ (.int .i64 n)).setCell ⟨xb, 1, none⟩ y1).setCell ⟨xb, 2, none⟩ y2) := by
  have hl := h.lt
  have hbs := h.base
  have hsz := h.box.chg.size
  have hgl := h.box.cur.lt
  have hrl : rb < W.heap.size := by omega
  have h1 := (((h.box.below hb).store (i := 0) (u := .int .i64 n) (v := .int .i64 n) rfl (by omega) (by omega) (by omega) (by omega)).store (i := 1) (u := y1) (v := x1) rfl (by omega) (by omega) (by omega) (by omega)).store (i := 2) (u := y2) (v := x2) rfl (by omega) (by omega) (by omega) (by omega)
  have hch : Chg [xb] W' (((W'.setCell ⟨xb, 0, none⟩ (.int .i64 n)).setCell ⟨xb, 1, none⟩ y1).setCell ⟨xb, 2, none⟩ y2) := by repeat' (with_reducible first | exact Chg.refl _ _ | refine qC ?_)
  refine ⟨h1, ho.chg hch (fun b hm hm' => by have := (hf.2 b hm).1; simp at hm'; omega), fresh_mono hf hsz hch.size, fun b hm hm' => ?_, hbs⟩
  have := (hf.2 b hm).1
  simp at hm'
  omega
end
theorem pls_head {W : World} {S1 S : List Nat} {x2 : Value} {r : RPl} {pl : List RPl} {B : Nat} (h : OwPls W S x2 (r :: pl)) (hf : Fresh B W (S1 ++ S)) (hB : B ≤ W.heap.size) :
    ∃ gp cp u, x2 = .slice (some ⟨gp, 0, none⟩) (pl.length + 1) cp ∧ gp ∈ S ∧ W.cell? ⟨gp, 0, none⟩ = some u ∧ W.cell? ⟨gp, 1, none⟩ = some (.int .i64 r.2) ∧ W.frozen? ⟨gp, 0, none⟩ = false ∧ W.frozen? ⟨gp, 1, none⟩ = false ∧
    ∃ S', OwPls (((W.setCell ⟨gp, 1, none⟩ (.int .i64 2)).setCell ⟨gp, 0, none⟩ (.slice (some ⟨W.heap.size, 0, none⟩) 4 4)).alloc (.cells #[.int .i64 0, .int .i64 1, .int .i64 2, .int .i64 3] 3)) S' x2 (([0, 1, 2, 3], 2) :: pl) ∧
      Fresh B (((W.setCell ⟨gp, 1, none⟩ (.int .i64 2)).setCell ⟨gp, 0, none⟩ (.slice (some ⟨W.heap.size, 0, none⟩) 4 4)).alloc (.cells #[.int .i64 0, .int .i64 1, .int .i64 2, .int .i64 3] 3)) (S1 ++ S') ∧ ∀ b ∈ S', b ∈ S ∨ b = W.heap.size := by
  obtain ⟨vs, hvl, hown, hrows, rfl⟩ := h
  cases vs with
  | nil => simp at hvl
  | cons p vs =>
    obtain ⟨gp, cp, rfl⟩ := own_form hown (by simp)
    have hl : vs.length = pl.length := by simpa using hvl
    have hfl : ((p :: vs).flatMap cPl).length = (vs.length + 1) * 2 := by rw [len_flat cPl_len]; simp
    have hp2 : p.2 = r.2 := (hrows 0 p r rfl rfl).1
    have h0 := (hown.cellAt 0 (by rw [List.length_cons]; omega))
    have h1 := (hown.cellAt 1 (by rw [List.length_cons]; omega))
    refine ⟨gp, cp, p.1, by rw [List.length_cons, hl], by simp [Value.ownBlock], h0.trans rfl, h1.trans (by rw [← hp2]; rfl), hown.frozenAt 0, hown.frozenAt 1, ?_⟩
    have hst1 := (hown.stored 1 (.int .i64 2)).1
    have hst2 := (hst1.stored 0 (.slice (some ⟨W.heap.size, 0, none⟩) 4 4)).1
    have hst3 := hst2.alloc (.cells #[.int .i64 0, .int .i64 1, .int .i64 2, .int .i64 3] 3)
    have hf1 := fresh_right hf
    obtain ⟨_, hnd, hd1, hd2⟩ := nodup2 hf1.1
    have hpn : plBlocks (p :: vs) = p.1.ownBlock.toList ++ plBlocks vs := rfl
    rw [hpn] at hnd hd1 hd2
    have hsub : ∀ b ∈ plBlocks vs, b ∈ plBlocks (p :: vs) := fun b hb => by rw [hpn]; exact List.mem_append_right _ hb
    have hgp : gp < W.heap.size := (hown.lt gp rfl).2
    have hold : ∀ b ∈ plBlocks vs, (B ≤ b ∧ b < W.heap.size) ∧ b ≠ gp := fun b hb => ⟨hf1.2 b (List.mem_append_right _ (hsub b hb)), fun e => hd2 b (List.mem_append_right _ hb) (by rw [e]; simp [Value.ownBlock])⟩
    refine ⟨_, ⟨(.slice (some ⟨W.heap.size, 0, none⟩) 4 4, 2) :: vs, by simp [hl], ?_, ?_, rfl⟩, ?_, ?_⟩
    · exact hst3
    · intro i q r' hq hr'
      cases i with
      | zero =>
        simp at hq hr'
        subst hq hr'
        refine ⟨rfl, ?_⟩
        have := row_full (size := 1) (e := 3) ((W.setCell ⟨gp, 1, none⟩ (.int .i64 2)).setCell ⟨gp, 0, none⟩ (.slice (some ⟨W.heap.size, 0, none⟩) 4 4)) #[.int .i64 0, .int .i64 1, .int .i64 2, .int .i64 3] 4 rfl (by simp [maxLen])
        rw [World.size_setCell, World.size_setCell] at this
        exact own_mono this (Nat.zero_le _)
      | succ i =>
        have hq' : (p :: vs)[i + 1]? = some q := hq
        obtain ⟨h1, h2⟩ := hrows (i + 1) q r' hq' hr'
        refine ⟨h1, ?_⟩
        have hqm : ∀ b ∈ q.1.ownBlock.toList, b ∈ plBlocks vs := mem_plBlocks (i := i) hq
        exact World.ownsRow.alloc (own_chg (S := [gp]) h2 (by repeat' (with_reducible first | exact Chg.refl _ _ | refine qC ?_)) (fun b hb hb' => by have := (hold b (hqm b hb)).2; simp at hb'; exact this hb')) _
    · have hpn2 : plBlocks ((Value.slice (some ⟨W.heap.size, 0, none⟩) 4 4, (2 : Int)) :: vs) = [W.heap.size] ++ plBlocks vs := rfl
      rw [hpn2]
      have hS1 := fresh_left hf
      have hd := (nodup2 hf.1).2.2.1
      refine ⟨?_, fun b hb => ?_⟩
      · refine List.nodup_append.2 ⟨hS1.1, List.nodup_append.2 ⟨by simp [Value.ownBlock], List.nodup_append.2 ⟨by simp, (nodup2 hnd).2.1, ?_⟩, ?_⟩, ?_⟩
        · intro a ha b hb e
          subst e
          simp at ha
          have := (hold a hb).1.2
          omega
        · intro a ha b hb e
          subst e
          have hag : a = gp := by simpa [Value.ownBlock, eq_comm] using ha
          rcases List.mem_append.1 hb with hb | hb
          · simp at hb; omega
          · exact (hold a hb).2 hag
        · intro a ha b hb e
          subst e
          have h3 := (hS1.2 a ha).2
          rcases List.mem_append.1 hb with hb | hb
          · exact hd a ha (List.mem_append_left _ hb)
          · rcases List.mem_append.1 hb with hb | hb
            · simp at hb; omega
            · exact hd a ha (List.mem_append_right _ (hsub a hb))
      · simp
        rcases List.mem_append.1 hb with hb | hb
        · have := hS1.2 b hb; omega
        · rcases List.mem_append.1 hb with hb | hb
          · have hag : b = gp := by simpa [Value.ownBlock, eq_comm] using hb
            have := hf1.2 gp (by simp [Value.ownBlock]); omega
          · rcases List.mem_append.1 hb with hb | hb
            · simp at hb; omega
            · have := (hold b hb).1; omega
    · intro b hb
      rcases List.mem_append.1 hb with hb | hb
      · exact .inl (List.mem_append_left _ hb)
      · have hpn2 : plBlocks ((Value.slice (some ⟨W.heap.size, 0, none⟩) 4 4, (2 : Int)) :: vs) = [W.heap.size] ++ plBlocks vs := rfl
        rw [hpn2] at hb
        rcases List.mem_append.1 hb with hb | hb
        · simp at hb; exact .inr hb
        · exact .inl (List.mem_append_right _ (hsub b hb))
set_option maxHeartbeats 16000000 in
set_option maxRecDepth 100000 in
theorem l37Company_any (w0 w : World) (g : Nat) (A : Option Addr) (c : Nat) (bs : List Int) (hcur : Cur w0 w g A c bs) :
    Calls Tryz.prog 49 #[.pointer (some ⟨g, 0, none⟩)] w (CompanyPost w0 w g A c bs) := by
  have hglt := hcur.lt
  have hw0 := hcur.below.size
  go_enter Tryz.func49, Tryz.ntmps49
  go_wp2_with fail
  have lr0 : Loc (w.alloc (.cells #[.int .i64 0, .slice none 0 0, .slice none 0 0] 27)) w.heap.size [.int .i64 0, .slice none 0 0, .slice none 0 0] := Loc.new w #[.int .i64 0, .slice none 0 0, .slice none 0 0] 27
  have hal0 : Below w.heap.size w (w.alloc (.cells #[.int .i64 0, .slice none 0 0, .slice none 0 0] 27)) := (Below.refl _ _).alloc (Nat.le_refl _) _
  have hc0 := hcur.keep hal0
  have hch0 := Chg.of_below hal0 [g]
  have hzV : w.heap.size + 1 ≤ (w.alloc (.cells #[.int .i64 0, .slice none 0 0, .slice none 0 0] 27)).heap.size := by simp
  obtain ⟨rb, hrb⟩ : ∃ rb, w.heap.size = rb := ⟨_, rfl⟩
  have hwrb : w.heap.size ≤ rb := by omega
  have hgrb : g < rb := by omega
  have hrbV : rb < (w.alloc (.cells #[.int .i64 0, .slice none 0 0, .slice none 0 0] 27)).heap.size := by omega
  generalize w.alloc (.cells #[.int .i64 0, .slice none 0 0, .slice none 0 0] 27) = V at *
  rw [hrb] at lr0 ⊢
  clear hrb hal0
  refine (l08List_any w0 V g A c bs hc0).mono ?_
  rintro e w1 ⟨n, v, l, rfl, own1, hn, hl9, hval, hc1, hch1⟩
  obtain ⟨Aq, cq, rfl, _, _⟩ := (RdS.of_own own1).form
  have lr1 := lr0.chg hch1 (by simp; omega)
  have hchw1 := hch0.trans hch1
  have own1' := own_mono own1 (show rb + 1 ≤ V.heap.size by omega)
  have Hval := Lib.hid hval
  have hz1 := hch1.size
  clear hc0 lr0 hch0 hch1 own1 hval
  go_upto_if 12 with (fail)
  go_cut [3, 4] (fun s3 s4 wx => ∃ (n : Nat) (Aq : Option Addr) (cq : Nat) (l : List RCross), s3 = .int .i64 n ∧ s4 = .slice Aq l.length cq ∧ wx.ownsRow (rb + 1) 79 2 (.slice Aq l.length cq) l.length (l.flatMap cCross) ∧ (2 ≤ n ∧ n ≤ 4) ∧ l.length ≤ 9 ∧ Hid (∀ t ∈ l, 0 ≤ t.1 ∧ t.1 ≤ (n : Int) - 2) ∧ Cur w0 wx g A c bs ∧ Chg [g] w wx ∧ Loc wx rb [.int .i64 0, .slice none 0 0, .slice none 0 0] ∧ rb < wx.heap.size)
  case first =>
    by_cases h4 : 4 < n
    · go_wp2_with fail
      go_meet
      exact ⟨4, _, _, [], rfl, rfl, World.ownsRow_made (size := 2) (e := 79) w1 #[] 0 (by omega) (by simp [maxLen]) rfl, by omega, by simp, by simp [Hid], hc1.keep ((Below.refl _ _).alloc (Nat.le_refl _) _), hchw1.alloc _, lr1.alloc _, by simp; omega⟩
    · go_wp2_with fail
      go_meet
      exact ⟨n, Aq, cq, l, rfl, rfl, own1', by omega, hl9, Hval.out, hc1, hchw1, lr1, by omega⟩
  case rest =>
    clear lr1 hc1 hchw1 own1' Hval hn hl9
    obtain ⟨n, Aq, cq, l, rfl, rfl, own1, hn, hl9, Hval, hc1, hch1, lr1, hz1⟩ := hcut
    go_wp2_with fail
    refine (l13List_any w0 wc g A c bs hc1).mono ?_
    rintro e w2 ⟨v2, pl, S2, rfl, hp2, hf2, hpl, hpd, hc2, hch2⟩
    obtain ⟨Ap, cp, rfl, _, _⟩ := hp2.rd.form
    have HOK : Hid (CoOk n l pl) := CoOk.start hn hl9 Hval.out hpd hpl
    have lr2 := lr1.chg hch2 (by simp; omega)
    have own2 := own_draw own1 hch2 (by omega)
    have hchw2 := hch1.trans hch2
    have hz2 := hch2.size
    have hf12 : Fresh (rb + 1) w2 ((Value.slice Aq l.length cq).ownBlock.toList ++ S2) := fresh_join (fresh_of own2) (fresh_mono hf2 (by omega) (Nat.le_refl _)) (fun b hb hb' => by have := (own1.lt b (by simpa using hb)).2; have := (hf2.2 b hb').1; omega)
    have hco : OwCompany w2 _ (.slice Aq l.length cq) (.slice Ap pl.length cp) l pl := ⟨_, _, rfl, OwL.mk_ own2, hp2⟩
    generalize (Value.slice Aq l.length cq).ownBlock.toList ++ S2 = S at *
    clear lr1 hc1 hch1 own1 own2 Hval hl9 hp2 hf2 hpl hpd hch2
    go_upto_region 6 with (fail)
    have hal : Below w2.heap.size w2 (w2.alloc (.cells #[.int .i64 n, .slice Aq l.length cq, .slice Ap pl.length cp] 27)) := (Below.refl _ _).alloc (Nat.le_refl _) _
    have hst : CoSt w0 w g A c bs w2.heap.size rb n (.slice Aq l.length cq) (.slice Ap pl.length cp) l pl S (w2.alloc (.cells #[.int .i64 n, .slice Aq l.length cq, .slice Ap pl.length cp] 27)) :=
      ⟨⟨hc2.keep hal, hchw2.trans (Chg.of_below hal _), Loc.new w2 #[.int .i64 n, .slice Aq l.length cq, .slice Ap pl.length cp] 27, lr2.below hal, by simp⟩, hco.below hal, fresh_mono hf12 (by omega) hal.size, fun b hb hb' => by have := hf12.2 b hb; simp at hb'; omega, ⟨by omega, by omega, by omega⟩⟩
    obtain ⟨xb, hxb⟩ : ∃ xb, w2.heap.size = xb := ⟨_, rfl⟩
    rw [hxb] at hst
    generalize w2.alloc (.cells #[.int .i64 n, .slice Aq l.length cq, .slice Ap pl.length cp] 27) = W at *
    (try rw [hxb])
    clear hal hc2 hchw2 lr2 hco hf12 hxb hz1 hz2 hzV hrbV
    go_wp2_with fail
    refine (l01Below_any 4 w0 W g A c bs hst.box.cur (by omega) (by omega)).mono ?_
    rintro e w3 ⟨r, rfl, ⟨hr0, hr1⟩, hc3, hch3⟩
    have hst3 := hst.draw hc3 hch3
    clear hst hc3 hch3
    go_upto_region 7 with (fail)
    have H0 : Hid (∀ (cs : List RCross), CoOk n cs pl → szCompany cs pl ≤ 1048576) := fun cs h => by have := companyB_sz h.ok; omega
    skip
    by_cases h0 : r = 0
    · subst h0
      have b0 := (hst3.box.lx 0 _ rfl).1
      have b1 := (hst3.box.lx 1 _ rfl).1
      have b2 := (hst3.box.lx 2 _ rfl).1
      have hCa : Hid (∀ W x1 x2, RdCompany W x1 x2 l pl → Calls Tryz.prog 74 #[.agg #[.int .i64 n, x1, x2]] W (RetCompany n (goB n l pl) (goC n l pl) pl W)) := fun W x1 x2 hr => specGoHome_any n x1 x2 l pl W hr (H0.out _ HOK.out)
      have HOKa : Hid (CoOk n (goC n l pl) pl) := HOK.out.go
      obtain ⟨l4, hcsa⟩ : ∃ l', goC (n : Int) l pl = l' := ⟨_, rfl⟩
      obtain ⟨bka, hbka⟩ : ∃ b, goB (n : Int) l pl = b := ⟨_, rfl⟩
      rw [hcsa, hbka] at hCa
      rw [hcsa] at HOKa
      clear hcsa hbka
      go_wp2_with fail
      refine (hCa.out _ _ _ hst3.own.rd).mono ?_
      rintro e w4 ⟨y1a, y2a, Sa, rfl, oy, fy, q⟩
      obtain ⟨⟨B1a, k1a, rfl⟩, ⟨B2a, k2a, rfl⟩⟩ := oy.rd.forms
      have lxa := hst3.box.lx.below q
      have b0 := (lxa 0 _ rfl).1
      have f0 := (lxa 0 _ rfl).2
      have b1 := (lxa 1 _ rfl).1
      have f1 := (lxa 1 _ rfl).2
      have b2 := (lxa 2 _ rfl).1
      have f2 := (lxa 2 _ rfl).2
      have hsta := hst3.next q oy fy
      go_upto_region 12 with (fail)
      clear b0 b1 b2 f0 f1 f2 lxa oy fy q hst3
      generalize ((w4.setCell ⟨xb, 0, none⟩ (.int .i64 n)).setCell ⟨xb, 1, none⟩ (.slice B1a l4.length k1a)).setCell ⟨xb, 2, none⟩ (.slice B2a pl.length k2a) = w5 at *
      go_wp2_with fail
      refine (l01Once_any 2 w0 _ g A c bs hsta.box.cur (by omega) (by omega)).mono ?_
      rintro e w8 ⟨b, rfl, hc8, hch8⟩
      have hst8 := hsta.draw hc8 hch8
      clear hsta hc8 hch8
      cases b
      · skip
        have b0 := (hst8.box.lx 0 _ rfl).1
        have b1 := (hst8.box.lx 1 _ rfl).1
        have b2 := (hst8.box.lx 2 _ rfl).1
        have r0 := (hst8.box.lr 0 _ rfl).1
        have r1 := (hst8.box.lr 1 _ rfl).1
        have r2 := (hst8.box.lr 2 _ rfl).1
        have s0 := (hst8.box.lr 0 _ rfl).2
        have s1 := (hst8.box.lr 1 _ rfl).2
        have s2 := (hst8.box.lr 2 _ rfl).2
        have hbs := hst8.base
        go_wp2_with fail
        have hch9 : Chg [rb] w8 (((w8.setCell ⟨rb, 0, none⟩ (.int .i64 n)).setCell ⟨rb, 1, none⟩ (.slice B1a l4.length k1a)).setCell ⟨rb, 2, none⟩ (.slice B2a pl.length k2a)) := by repeat' (with_reducible first | exact Chg.refl _ _ | refine qC ?_)
        refine bodyPost_ret (v := .agg #[.int .i64 n, .slice B1a l4.length k1a, .slice B2a pl.length k2a]) (by simp [results, Tryz.results49, go_sem, *]) rfl ⟨n, _, _, _, _, _, rfl, hst8.own.chg hch9 (fun b hb hb' => hst8.ap b hb (by simp at hb' ⊢; exact .inr (.inr hb'))), fresh_mono hst8.fr (Nat.le_refl _) hch9.size, HOKa.out, hst8.box.cur.chg hch9 (by simp; omega) (by simp; omega), chg_low hst8.box.chg hch9 (by simp; omega)⟩
      · skip
        cases pl with
        | nil => exact absurd HOKa.out.len (by simp)
        | cons p0 pl0 =>
          obtain ⟨Sa, Sb, hSe, hoa, hob⟩ := hst8.own
          have hfr8 := hst8.fr
          rw [hSe] at hfr8
          obtain ⟨gp, cpp, u0, hv2, hgp, g0, g1, gf0, gf1, S', how', hfr', hS'⟩ := pls_head hob hfr8 hst8.box.chg.size
          injection hv2 with e1 e2 e3
          subst e1 e3
          clear e2
          have hgS : gp ∉ [g, xb, rb] := hst8.ap gp (by rw [hSe]; exact List.mem_append_right _ hgp)
          simp at hgS
          have hlt8 := hst8.lt
          have hbs := hst8.base
          have hgg := (hst8.fr.2 gp (by rw [hSe]; exact List.mem_append_right _ hgp))
          have b0 := (hst8.box.lx 0 _ rfl).1
          have b1 := (hst8.box.lx 1 _ rfl).1
          have b2 := (hst8.box.lx 2 _ rfl).1
          have HS' := Lib.hid hS'
          have HSe := Lib.hid hSe
          clear hS' hSe
          go_upto_region 15 with (fail)
          have hchE : Chg [gp] w8 (((w8.setCell ⟨gp, 1, none⟩ (.int .i64 2)).setCell ⟨gp, 0, none⟩ (.slice (some ⟨w8.heap.size, 0, none⟩) 4 4)).alloc (.cells #[.int .i64 0, .int .i64 1, .int .i64 2, .int .i64 3] 3)) := Chg.alloc (by repeat' (with_reducible first | exact Chg.refl _ _ | refine qC ?_)) _
          have hst9 : CoSt w0 w g A c bs xb rb n (.slice B1a l4.length k1a) (.slice (some ⟨gp, 0, none⟩) (pl0.length + 1) k2a) l4 (([0, 1, 2, 3], 2) :: pl0) (Sa ++ S') (((w8.setCell ⟨gp, 1, none⟩ (.int .i64 2)).setCell ⟨gp, 0, none⟩ (.slice (some ⟨w8.heap.size, 0, none⟩) 4 4)).alloc (.cells #[.int .i64 0, .int .i64 1, .int .i64 2, .int .i64 3] 3)) :=
            ⟨⟨hst8.box.cur.chg hchE (by simp; omega) (by simp; omega), chg_low hst8.box.chg hchE (by simp; omega), hst8.box.lx.chg hchE (by simp; omega), hst8.box.lr.chg hchE (by simp; omega), Nat.lt_of_lt_of_le hlt8 hchE.size⟩,
             ⟨Sa, S', rfl, hoa.chg hchE (fun b hb hb' => (nodup2 hfr8.1).2.2.1 b hb (by simp at hb'; rw [hb']; exact hgp)), how'⟩, hfr', fun b hb hb' => by
               rcases List.mem_append.1 hb with hb | hb
               · exact hst8.ap b (by rw [HSe.out]; exact List.mem_append_left _ hb) hb'
               · rcases HS'.out b hb with hb | hb
                 · exact hst8.ap b (by rw [HSe.out]; exact List.mem_append_right _ hb) hb'
                 · have := hst8.box.cur.lt; simp at hb'; omega, hst8.base⟩
          have HOK9 : Hid (CoOk n l4 (([0, 1, 2, 3], 2) :: pl0)) := HOKa.out.four
          clear b0 b1 b2 g0 g1 gf0 gf1 hst8 hoa hob hfr8 how' hfr' hchE hgp hgS hlt8 hgg hbs
          generalize ((w8.setCell ⟨gp, 1, none⟩ (.int .i64 2)).setCell ⟨gp, 0, none⟩ (.slice (some ⟨w8.heap.size, 0, none⟩) 4 4)).alloc (.cells #[.int .i64 0, .int .i64 1, .int .i64 2, .int .i64 3] 3) = w9 at *
          have b0 := (hst9.box.lx 0 _ rfl).1
          have b1 := (hst9.box.lx 1 _ rfl).1
          have b2 := (hst9.box.lx 2 _ rfl).1
          have r0 := (hst9.box.lr 0 _ rfl).1
          have r1 := (hst9.box.lr 1 _ rfl).1
          have r2 := (hst9.box.lr 2 _ rfl).1
          have s0 := (hst9.box.lr 0 _ rfl).2
          have s1 := (hst9.box.lr 1 _ rfl).2
          have s2 := (hst9.box.lr 2 _ rfl).2
          have hbs := hst9.base
          go_wp2_with fail
          have hch9 : Chg [rb] w9 (((w9.setCell ⟨rb, 0, none⟩ (.int .i64 n)).setCell ⟨rb, 1, none⟩ (.slice B1a l4.length k1a)).setCell ⟨rb, 2, none⟩ (.slice (some ⟨gp, 0, none⟩) (pl0.length + 1) k2a)) := by repeat' (with_reducible first | exact Chg.refl _ _ | refine qC ?_)
          refine bodyPost_ret (v := .agg #[.int .i64 n, .slice B1a l4.length k1a, .slice (some ⟨gp, 0, none⟩) (pl0.length + 1) k2a]) (by simp [results, Tryz.results49, go_sem, *]) rfl ⟨n, _, _, _, _, _, rfl, hst9.own.chg hch9 (fun b hb hb' => hst9.ap b hb (by simp at hb' ⊢; exact .inr (.inr hb'))), fresh_mono hst9.fr (Nat.le_refl _) hch9.size, HOK9.out, hst9.box.cur.chg hch9 (by simp; omega) (by simp; omega), chg_low hst9.box.chg hch9 (by simp; omega)⟩
    · by_cases h1 : r = 1
      · subst h1
        have b0 := (hst3.box.lx 0 _ rfl).1
        have b1 := (hst3.box.lx 1 _ rfl).1
        have b2 := (hst3.box.lx 2 _ rfl).1
        have hCa : Hid (∀ W x1 x2, RdCompany W x1 x2 l pl → Calls Tryz.prog 74 #[.agg #[.int .i64 n, x1, x2]] W (RetCompany n (goB n l pl) (goC n l pl) pl W)) := fun W x1 x2 hr => specGoHome_any n x1 x2 l pl W hr (H0.out _ HOK.out)
        have HOKa : Hid (CoOk n (goC n l pl) pl) := HOK.out.go
        obtain ⟨l4, hcsa⟩ : ∃ l', goC (n : Int) l pl = l' := ⟨_, rfl⟩
        obtain ⟨bka, hbka⟩ : ∃ b, goB (n : Int) l pl = b := ⟨_, rfl⟩
        rw [hcsa, hbka] at hCa
        rw [hcsa] at HOKa
        clear hcsa hbka
        go_wp2_with fail
        refine (hCa.out _ _ _ hst3.own.rd).mono ?_
        rintro e w4 ⟨y1a, y2a, Sa, rfl, oy, fy, q⟩
        obtain ⟨⟨B1a, k1a, rfl⟩, ⟨B2a, k2a, rfl⟩⟩ := oy.rd.forms
        have lxa := hst3.box.lx.below q
        have b0 := (lxa 0 _ rfl).1
        have f0 := (lxa 0 _ rfl).2
        have b1 := (lxa 1 _ rfl).1
        have f1 := (lxa 1 _ rfl).2
        have b2 := (lxa 2 _ rfl).1
        have f2 := (lxa 2 _ rfl).2
        have hsta := hst3.next q oy fy
        go_upto_region 11 with (fail)
        clear b0 b1 b2 f0 f1 f2 lxa oy fy q hst3
        generalize ((w4.setCell ⟨xb, 0, none⟩ (.int .i64 n)).setCell ⟨xb, 1, none⟩ (.slice B1a l4.length k1a)).setCell ⟨xb, 2, none⟩ (.slice B2a pl.length k2a) = w5 at *
        have b0 := (hsta.box.lx 0 _ rfl).1
        have b1 := (hsta.box.lx 1 _ rfl).1
        have b2 := (hsta.box.lx 2 _ rfl).1
        have hCb : Hid (∀ W x1 x2, RdCompany W x1 x2 l4 pl → Calls Tryz.prog 75 #[.agg #[.int .i64 n, x1, x2]] W (RetCompany n (untB n l4 pl) (untC n l4 pl) pl W)) := fun W x1 x2 hr => specUntwist_any n x1 x2 l4 pl W hr (H0.out _ HOKa.out)
        have HOKb : Hid (CoOk n (untC n l4 pl) pl) := HOKa.out.unt
        obtain ⟨l6, hcsb⟩ : ∃ l', untC (n : Int) l4 pl = l' := ⟨_, rfl⟩
        obtain ⟨bkb, hbkb⟩ : ∃ b, untB (n : Int) l4 pl = b := ⟨_, rfl⟩
        rw [hcsb, hbkb] at hCb
        rw [hcsb] at HOKb
        clear hcsb hbkb
        go_wp2_with fail
        refine (hCb.out _ _ _ hsta.own.rd).mono ?_
        rintro e w6 ⟨y1b, y2b, Sb, rfl, oy, fy, q⟩
        obtain ⟨⟨B1b, k1b, rfl⟩, ⟨B2b, k2b, rfl⟩⟩ := oy.rd.forms
        have lxb := hsta.box.lx.below q
        have b0 := (lxb 0 _ rfl).1
        have f0 := (lxb 0 _ rfl).2
        have b1 := (lxb 1 _ rfl).1
        have f1 := (lxb 1 _ rfl).2
        have b2 := (lxb 2 _ rfl).1
        have f2 := (lxb 2 _ rfl).2
        have hstb := hsta.next q oy fy
        go_upto_region 12 with (fail)
        clear b0 b1 b2 f0 f1 f2 lxb oy fy q hsta
        generalize ((w6.setCell ⟨xb, 0, none⟩ (.int .i64 n)).setCell ⟨xb, 1, none⟩ (.slice B1b l6.length k1b)).setCell ⟨xb, 2, none⟩ (.slice B2b pl.length k2b) = w7 at *
        go_wp2_with fail
        refine (l01Once_any 2 w0 _ g A c bs hstb.box.cur (by omega) (by omega)).mono ?_
        rintro e w8 ⟨b, rfl, hc8, hch8⟩
        have hst8 := hstb.draw hc8 hch8
        clear hstb hc8 hch8
        cases b
        · skip
          have b0 := (hst8.box.lx 0 _ rfl).1
          have b1 := (hst8.box.lx 1 _ rfl).1
          have b2 := (hst8.box.lx 2 _ rfl).1
          have r0 := (hst8.box.lr 0 _ rfl).1
          have r1 := (hst8.box.lr 1 _ rfl).1
          have r2 := (hst8.box.lr 2 _ rfl).1
          have s0 := (hst8.box.lr 0 _ rfl).2
          have s1 := (hst8.box.lr 1 _ rfl).2
          have s2 := (hst8.box.lr 2 _ rfl).2
          have hbs := hst8.base
          go_wp2_with fail
          have hch9 : Chg [rb] w8 (((w8.setCell ⟨rb, 0, none⟩ (.int .i64 n)).setCell ⟨rb, 1, none⟩ (.slice B1b l6.length k1b)).setCell ⟨rb, 2, none⟩ (.slice B2b pl.length k2b)) := by repeat' (with_reducible first | exact Chg.refl _ _ | refine qC ?_)
          refine bodyPost_ret (v := .agg #[.int .i64 n, .slice B1b l6.length k1b, .slice B2b pl.length k2b]) (by simp [results, Tryz.results49, go_sem, *]) rfl ⟨n, _, _, _, _, _, rfl, hst8.own.chg hch9 (fun b hb hb' => hst8.ap b hb (by simp at hb' ⊢; exact .inr (.inr hb'))), fresh_mono hst8.fr (Nat.le_refl _) hch9.size, HOKb.out, hst8.box.cur.chg hch9 (by simp; omega) (by simp; omega), chg_low hst8.box.chg hch9 (by simp; omega)⟩
        · skip
          cases pl with
          | nil => exact absurd HOKb.out.len (by simp)
          | cons p0 pl0 =>
            obtain ⟨Sa, Sb, hSe, hoa, hob⟩ := hst8.own
            have hfr8 := hst8.fr
            rw [hSe] at hfr8
            obtain ⟨gp, cpp, u0, hv2, hgp, g0, g1, gf0, gf1, S', how', hfr', hS'⟩ := pls_head hob hfr8 hst8.box.chg.size
            injection hv2 with e1 e2 e3
            subst e1 e3
            clear e2
            have hgS : gp ∉ [g, xb, rb] := hst8.ap gp (by rw [hSe]; exact List.mem_append_right _ hgp)
            simp at hgS
            have hlt8 := hst8.lt
            have hbs := hst8.base
            have hgg := (hst8.fr.2 gp (by rw [hSe]; exact List.mem_append_right _ hgp))
            have b0 := (hst8.box.lx 0 _ rfl).1
            have b1 := (hst8.box.lx 1 _ rfl).1
            have b2 := (hst8.box.lx 2 _ rfl).1
            have HS' := Lib.hid hS'
            have HSe := Lib.hid hSe
            clear hS' hSe
            go_upto_region 15 with (fail)
            have hchE : Chg [gp] w8 (((w8.setCell ⟨gp, 1, none⟩ (.int .i64 2)).setCell ⟨gp, 0, none⟩ (.slice (some ⟨w8.heap.size, 0, none⟩) 4 4)).alloc (.cells #[.int .i64 0, .int .i64 1, .int .i64 2, .int .i64 3] 3)) := Chg.alloc (by repeat' (with_reducible first | exact Chg.refl _ _ | refine qC ?_)) _
            have hst9 : CoSt w0 w g A c bs xb rb n (.slice B1b l6.length k1b) (.slice (some ⟨gp, 0, none⟩) (pl0.length + 1) k2b) l6 (([0, 1, 2, 3], 2) :: pl0) (Sa ++ S') (((w8.setCell ⟨gp, 1, none⟩ (.int .i64 2)).setCell ⟨gp, 0, none⟩ (.slice (some ⟨w8.heap.size, 0, none⟩) 4 4)).alloc (.cells #[.int .i64 0, .int .i64 1, .int .i64 2, .int .i64 3] 3)) :=
              ⟨⟨hst8.box.cur.chg hchE (by simp; omega) (by simp; omega), chg_low hst8.box.chg hchE (by simp; omega), hst8.box.lx.chg hchE (by simp; omega), hst8.box.lr.chg hchE (by simp; omega), Nat.lt_of_lt_of_le hlt8 hchE.size⟩,
               ⟨Sa, S', rfl, hoa.chg hchE (fun b hb hb' => (nodup2 hfr8.1).2.2.1 b hb (by simp at hb'; rw [hb']; exact hgp)), how'⟩, hfr', fun b hb hb' => by
                 rcases List.mem_append.1 hb with hb | hb
                 · exact hst8.ap b (by rw [HSe.out]; exact List.mem_append_left _ hb) hb'
                 · rcases HS'.out b hb with hb | hb
                   · exact hst8.ap b (by rw [HSe.out]; exact List.mem_append_right _ hb) hb'
                   · have := hst8.box.cur.lt; simp at hb'; omega, hst8.base⟩
            have HOK9 : Hid (CoOk n l6 (([0, 1, 2, 3], 2) :: pl0)) := HOKb.out.four
            clear b0 b1 b2 g0 g1 gf0 gf1 hst8 hoa hob hfr8 how' hfr' hchE hgp hgS hlt8 hgg hbs
            generalize ((w8.setCell ⟨gp, 1, none⟩ (.int .i64 2)).setCell ⟨gp, 0, none⟩ (.slice (some ⟨w8.heap.size, 0, none⟩) 4 4)).alloc (.cells #[.int .i64 0, .int .i64 1, .int .i64 2, .int .i64 3] 3) = w9 at *
            have b0 := (hst9.box.lx 0 _ rfl).1
            have b1 := (hst9.box.lx 1 _ rfl).1
            have b2 := (hst9.box.lx 2 _ rfl).1
            have r0 := (hst9.box.lr 0 _ rfl).1
            have r1 := (hst9.box.lr 1 _ rfl).1
            have r2 := (hst9.box.lr 2 _ rfl).1
            have s0 := (hst9.box.lr 0 _ rfl).2
            have s1 := (hst9.box.lr 1 _ rfl).2
            have s2 := (hst9.box.lr 2 _ rfl).2
            have hbs := hst9.base
            go_wp2_with fail
            have hch9 : Chg [rb] w9 (((w9.setCell ⟨rb, 0, none⟩ (.int .i64 n)).setCell ⟨rb, 1, none⟩ (.slice B1b l6.length k1b)).setCell ⟨rb, 2, none⟩ (.slice (some ⟨gp, 0, none⟩) (pl0.length + 1) k2b)) := by repeat' (with_reducible first | exact Chg.refl _ _ | refine qC ?_)
            refine bodyPost_ret (v := .agg #[.int .i64 n, .slice B1b l6.length k1b, .slice (some ⟨gp, 0, none⟩) (pl0.length + 1) k2b]) (by simp [results, Tryz.results49, go_sem, *]) rfl ⟨n, _, _, _, _, _, rfl, hst9.own.chg hch9 (fun b hb hb' => hst9.ap b hb (by simp at hb' ⊢; exact .inr (.inr hb'))), fresh_mono hst9.fr (Nat.le_refl _) hch9.size, HOK9.out, hst9.box.cur.chg hch9 (by simp; omega) (by simp; omega), chg_low hst9.box.chg hch9 (by simp; omega)⟩
      · have hb0 : (r == 0) = false := by simp; omega
        have hb1 : (r == 1) = false := by simp; omega
        go_wp2_with fail
        refine (l01Once_any 2 w0 _ g A c bs hst3.box.cur (by omega) (by omega)).mono ?_
        rintro e w8 ⟨b, rfl, hc8, hch8⟩
        have hst8 := hst3.draw hc8 hch8
        clear hst3 hc8 hch8
        cases b
        · skip
          have b0 := (hst8.box.lx 0 _ rfl).1
          have b1 := (hst8.box.lx 1 _ rfl).1
          have b2 := (hst8.box.lx 2 _ rfl).1
          have r0 := (hst8.box.lr 0 _ rfl).1
          have r1 := (hst8.box.lr 1 _ rfl).1
          have r2 := (hst8.box.lr 2 _ rfl).1
          have s0 := (hst8.box.lr 0 _ rfl).2
          have s1 := (hst8.box.lr 1 _ rfl).2
          have s2 := (hst8.box.lr 2 _ rfl).2
          have hbs := hst8.base
          go_wp2_with fail
          have hch9 : Chg [rb] w8 (((w8.setCell ⟨rb, 0, none⟩ (.int .i64 n)).setCell ⟨rb, 1, none⟩ (.slice Aq l.length cq)).setCell ⟨rb, 2, none⟩ (.slice Ap pl.length cp)) := by repeat' (with_reducible first | exact Chg.refl _ _ | refine qC ?_)
          refine bodyPost_ret (v := .agg #[.int .i64 n, .slice Aq l.length cq, .slice Ap pl.length cp]) (by simp [results, Tryz.results49, go_sem, *]) rfl ⟨n, _, _, _, _, _, rfl, hst8.own.chg hch9 (fun b hb hb' => hst8.ap b hb (by simp at hb' ⊢; exact .inr (.inr hb'))), fresh_mono hst8.fr (Nat.le_refl _) hch9.size, HOK.out, hst8.box.cur.chg hch9 (by simp; omega) (by simp; omega), chg_low hst8.box.chg hch9 (by simp; omega)⟩
        · skip
          cases pl with
          | nil => exact absurd HOK.out.len (by simp)
          | cons p0 pl0 =>
            obtain ⟨Sa, Sb, hSe, hoa, hob⟩ := hst8.own
            have hfr8 := hst8.fr
            rw [hSe] at hfr8
            obtain ⟨gp, cpp, u0, hv2, hgp, g0, g1, gf0, gf1, S', how', hfr', hS'⟩ := pls_head hob hfr8 hst8.box.chg.size
            injection hv2 with e1 e2 e3
            subst e1 e3
            clear e2
            have hgS : gp ∉ [g, xb, rb] := hst8.ap gp (by rw [hSe]; exact List.mem_append_right _ hgp)
            simp at hgS
            have hlt8 := hst8.lt
            have hbs := hst8.base
            have hgg := (hst8.fr.2 gp (by rw [hSe]; exact List.mem_append_right _ hgp))
            have b0 := (hst8.box.lx 0 _ rfl).1
            have b1 := (hst8.box.lx 1 _ rfl).1
            have b2 := (hst8.box.lx 2 _ rfl).1
            have HS' := Lib.hid hS'
            have HSe := Lib.hid hSe
            clear hS' hSe
            go_upto_region 15 with (fail)
            have hchE : Chg [gp] w8 (((w8.setCell ⟨gp, 1, none⟩ (.int .i64 2)).setCell ⟨gp, 0, none⟩ (.slice (some ⟨w8.heap.size, 0, none⟩) 4 4)).alloc (.cells #[.int .i64 0, .int .i64 1, .int .i64 2, .int .i64 3] 3)) := Chg.alloc (by repeat' (with_reducible first | exact Chg.refl _ _ | refine qC ?_)) _
            have hst9 : CoSt w0 w g A c bs xb rb n (.slice Aq l.length cq) (.slice (some ⟨gp, 0, none⟩) (pl0.length + 1) cp) l (([0, 1, 2, 3], 2) :: pl0) (Sa ++ S') (((w8.setCell ⟨gp, 1, none⟩ (.int .i64 2)).setCell ⟨gp, 0, none⟩ (.slice (some ⟨w8.heap.size, 0, none⟩) 4 4)).alloc (.cells #[.int .i64 0, .int .i64 1, .int .i64 2, .int .i64 3] 3)) :=
              ⟨⟨hst8.box.cur.chg hchE (by simp; omega) (by simp; omega), chg_low hst8.box.chg hchE (by simp; omega), hst8.box.lx.chg hchE (by simp; omega), hst8.box.lr.chg hchE (by simp; omega), Nat.lt_of_lt_of_le hlt8 hchE.size⟩,
               ⟨Sa, S', rfl, hoa.chg hchE (fun b hb hb' => (nodup2 hfr8.1).2.2.1 b hb (by simp at hb'; rw [hb']; exact hgp)), how'⟩, hfr', fun b hb hb' => by
                 rcases List.mem_append.1 hb with hb | hb
                 · exact hst8.ap b (by rw [HSe.out]; exact List.mem_append_left _ hb) hb'
                 · rcases HS'.out b hb with hb | hb
                   · exact hst8.ap b (by rw [HSe.out]; exact List.mem_append_right _ hb) hb'
                   · have := hst8.box.cur.lt; simp at hb'; omega, hst8.base⟩
            have HOK9 : Hid (CoOk n l (([0, 1, 2, 3], 2) :: pl0)) := HOK.out.four
            clear b0 b1 b2 g0 g1 gf0 gf1 hst8 hoa hob hfr8 how' hfr' hchE hgp hgS hlt8 hgg hbs
            generalize ((w8.setCell ⟨gp, 1, none⟩ (.int .i64 2)).setCell ⟨gp, 0, none⟩ (.slice (some ⟨w8.heap.size, 0, none⟩) 4 4)).alloc (.cells #[.int .i64 0, .int .i64 1, .int .i64 2, .int .i64 3] 3) = w9 at *
            have b0 := (hst9.box.lx 0 _ rfl).1
            have b1 := (hst9.box.lx 1 _ rfl).1
            have b2 := (hst9.box.lx 2 _ rfl).1
            have r0 := (hst9.box.lr 0 _ rfl).1
            have r1 := (hst9.box.lr 1 _ rfl).1
            have r2 := (hst9.box.lr 2 _ rfl).1
            have s0 := (hst9.box.lr 0 _ rfl).2
            have s1 := (hst9.box.lr 1 _ rfl).2
            have s2 := (hst9.box.lr 2 _ rfl).2
            have hbs := hst9.base
            go_wp2_with fail
            have hch9 : Chg [rb] w9 (((w9.setCell ⟨rb, 0, none⟩ (.int .i64 n)).setCell ⟨rb, 1, none⟩ (.slice Aq l.length cq)).setCell ⟨rb, 2, none⟩ (.slice (some ⟨gp, 0, none⟩) (pl0.length + 1) cp)) := by repeat' (with_reducible first | exact Chg.refl _ _ | refine qC ?_)
            refine bodyPost_ret (v := .agg #[.int .i64 n, .slice Aq l.length cq, .slice (some ⟨gp, 0, none⟩) (pl0.length + 1) cp]) (by simp [results, Tryz.results49, go_sem, *]) rfl ⟨n, _, _, _, _, _, rfl, hst9.own.chg hch9 (fun b hb hb' => hst9.ap b hb (by simp at hb' ⊢; exact .inr (.inr hb'))), fresh_mono hst9.fr (Nat.le_refl _) hch9.size, HOK9.out, hst9.box.cur.chg hch9 (by simp; omega) (by simp; omega), chg_low hst9.box.chg hch9 (by simp; omega)⟩
open Go.RowKit
structure ThOk (n : Nat) (m : Int) (cs : List RCross) (pl : List RPl) (ds : List Int) : Prop where
 co : CoOk n cs pl
 keeps : keepsB ds 5 = true
 days : ds.length ≤ 13
 money : 0 ≤ m ∧ m ≤ 999990
theorem ThOk.ok {n : Nat} {m : Int} {cs : List RCross} {pl : List RPl} {ds : List Int} (h : ThOk n m cs pl ds) : theatreB n m cs pl ds = true := by
 rw [theatreB, Bool.and_eq_true, Bool.and_eq_true]
 exact ⟨⟨h.co.ok, h.keeps⟩, inB_iff.2 (by have := h.money; omega)⟩
def ThPost (w0 w : World) (g : Nat) (A : Option Addr) (c : Nat) (bs : List Int) (e : Ending) (w' : World) : Prop :=
 ∃ (n : Nat) (m : Int) (cs : List RCross) (pl : List RPl) (ds : List Int) (x1 x2 x3 : Value) (S : List Nat), e = .returned (.agg #[.int .i64 n, x1, x2, x3, .int .i64 m]) ∧ OwTheatre w' S x1 x2 x3 cs pl ds ∧ Fresh w.heap.size w' S ∧ ThOk n m cs pl ds ∧ Cur w0 w' g A c bs ∧ Chg [g] w w'
def ThB (w0 w : World) (g : Nat) (A : Option Addr) (c : Nat) (bs : List Int) (e : Ending) (w' : World) : Prop :=
 ∃ (n m : Int) (cs : List RCross) (pl : List RPl) (ds : List Int) (x1 x2 x3 : Value) (S : List Nat), e = .returned (.agg #[.int .i64 n, x1, x2, x3, .int .i64 m]) ∧ OwTheatre w' S x1 x2 x3 cs pl ds ∧ Fresh w.heap.size w' S ∧ theatreB n m cs pl ds = true ∧ Cur w0 w' g A c bs ∧ Chg [g] w w'
theorem samp_ok : theatreB 3 60 [] onePl [] = true := by decide +kernel
set_option maxHeartbeats 8000000 in
set_option maxRecDepth 100000 in
theorem l38Theatre_any (w0 w : World) (g : Nat) (A : Option Addr) (c : Nat) (bs : List Int) (hcur : Cur w0 w g A c bs) :
  Calls Tryz.prog 25 #[.pointer (some ⟨g, 0, none⟩)] w (ThPost w0 w g A c bs) := by
 have hglt := hcur.lt
 have hw0 := hcur.below.size
 go_enter Tryz.func25, Tryz.ntmps25
 go_upto_region 1 with (fail)
 have lr0 : Loc (w.alloc (.cells #[.int .i64 0, .slice none 0 0, .slice none 0 0, .slice none 0 0, .int .i64 0] 30)) w.heap.size [.int .i64 0, .slice none 0 0, .slice none 0 0, .slice none 0 0, .int .i64 0] := Loc.new w #[.int .i64 0, .slice none 0 0, .slice none 0 0, .slice none 0 0, .int .i64 0] 30
 have hal0 : Below w.heap.size w (w.alloc (.cells #[.int .i64 0, .slice none 0 0, .slice none 0 0, .slice none 0 0, .int .i64 0] 30)) := (Below.refl _ _).alloc (Nat.le_refl _) _
 have hc0 := hcur.keep hal0
 have hch0 := Chg.of_below hal0 [g]
 have hzV : w.heap.size + 1 ≤ (w.alloc (.cells #[.int .i64 0, .slice none 0 0, .slice none 0 0, .slice none 0 0, .int .i64 0] 30)).heap.size := by simp
 obtain ⟨rb, hrb⟩ : ∃ rb, w.heap.size = rb := ⟨_, rfl⟩
 have hwrb : w.heap.size ≤ rb := by omega
 have hgrb : g < rb := by omega
 have hrbV : rb < (w.alloc (.cells #[.int .i64 0, .slice none 0 0, .slice none 0 0, .slice none 0 0, .int .i64 0] 30)).heap.size := by omega
 generalize w.alloc (.cells #[.int .i64 0, .slice none 0 0, .slice none 0 0, .slice none 0 0, .int .i64 0] 30) = V at *
 (try rw [hrb])
 rw [hrb] at lr0
 clear hrb hal0
 go_wp2_with fail
 refine (l37Company_any w0 V g A c bs hc0).mono ?_
 rintro e w1 ⟨n, cs, pl, x1, x2, S1, rfl, ow1, fr1, hco, hc1, hch1⟩
 obtain ⟨⟨A1, n1, rfl⟩, ⟨A2, n2, rfl⟩⟩ := ow1.rd.forms
 have HCO := Lib.hid hco
 have lr1 := lr0.chg hch1 (by simp; omega)
 have hchw1 := hch0.trans hch1
 have hz1 := hch1.size
 clear hco lr0 hch0 hch1 hc0
 go_wp2_with fail
 refine (l33Days_any w0 w1 g A c bs hc1).mono ?_
 rintro e w2 ⟨v3, days, rfl, own2, ⟨hsea, hd13⟩, hc2, hch2⟩
 obtain ⟨A3, n3, rfl, _, _⟩ := (RdS.of_own own2).form
 have ow2 := ow1.chg hch2 (fun b hb hb' => by have := (fr1.2 b hb).1; simp at hb'; omega)
 have fr2 := fresh_mono fr1 (Nat.le_refl _) hch2.size
 have lr2 := lr1.chg hch2 (by simp; omega)
 have hchw2 := hchw1.trans hch2
 have hz2 := hch2.size
 have hMS := mostShows_any (.slice A3 days.length n3) days w2 (RdS.of_own own2) hsea
 have HK : Hid (keepsB (mostL days) 5 = true ∧ (mostL days).length ≤ 13) := ⟨most_keeps hsea, Nat.le_trans (most_len hsea) hd13⟩
 generalize mostL days = ds at *
 clear own2 hsea hd13 lr1 hchw1 hch2 ow1 fr1 hc1
 go_wp2_with fail
 refine hMS.mono ?_
 rintro e w3 ⟨v4, rfl, own3, hb3⟩
 obtain ⟨A4, n4, rfl, _, _⟩ := (RdS.of_own own3).form
 have HS2 : Hid (∀ b ∈ S1, b < w2.heap.size) := fun b hb => (fr2.2 b hb).2
 have ow3 := ow2.below hb3
 have fr3 := fresh_mono fr2 (Nat.le_refl _) hb3.size
 have lr3 := lr2.below hb3
 have hchw3 := hchw2.trans (Chg.of_below hb3 _)
 have hc3 := hc2.keep hb3
 have hz3 := hb3.size
 clear hMS ow2 fr2 lr2 hchw2 hc2 hb3
 go_wp2_with fail
 refine (l01PickInt_any w3.heap.size [0, 3, 12, 100, 999990] w0 _ g A c bs (hc3.keep ((Below.refl _ _).alloc (Nat.le_refl _) _)) (by decide) (by have := hc3.lt; omega) (fun j hj => by
  rw [cell_of_row _ w3.heap.size j _ _ (0, 0) (heap_alloc_new w3 _)]
  match j, hj with
  | 0, _ => rfl
  | 1, _ => rfl
  | 2, _ => rfl
  | 3, _ => rfl
  | 4, _ => rfl
  | n + 5, h => exact absurd h (by simp))).mono ?_
 rintro e w4 ⟨m, hm, rfl, hc4, hch4⟩
 have hm2 : 0 ≤ m ∧ m ≤ 999990 := by simp at hm; omega
 have hal : Below w3.heap.size w3 (w3.alloc (.cells #[.int .i64 0, .int .i64 3, .int .i64 12, .int .i64 100, .int .i64 999990] 3)) := (Below.refl _ _).alloc (Nat.le_refl _) _
 have ow4 := (ow3.below hal).chg hch4 (fun b hb hb' => by have := (fr3.2 b hb).1; simp at hb'; omega)
 have fr4 := fresh_mono fr3 (Nat.le_refl _) (Nat.le_trans hal.size hch4.size)
 have own4 := own_chg (own_below own3 hal) hch4 (fun b hb hb' => by have := (own3.lt b (by simpa using hb)).1; simp at hb'; omega)
 have lr4 := (lr3.below hal).chg hch4 (by simp; omega)
 have hchw4 := (hchw3.trans (Chg.of_below hal _)).trans hch4
 have hz4 := Nat.le_trans hal.size hch4.size
 have hft : OwTheatre w4 _ (.slice A1 cs.length n1) (.slice A2 pl.length n2) (.slice A4 ds.length n4) cs pl ds := ⟨_, _, rfl, ow4, OwL.mk_ own4⟩
 have hff : Fresh (rb + 1) w4 (S1 ++ (Value.slice A4 ds.length n4).ownBlock.toList) := fresh_join (fresh_mono fr4 (by omega) (Nat.le_refl _)) (fresh_mono (fresh_of own4) (by omega) (Nat.le_refl _)) (fun b hb hb' => by have h1 := HS2.out b hb; have h2 := (own4.lt b (by simpa using hb')).1; omega)
 generalize S1 ++ (Value.slice A4 ds.length n4).ownBlock.toList = S at *
 clear ow3 fr3 own3 lr3 hchw3 hc3 hal ow4 fr4 own4 hch4 hm
 have r0 := (lr4 0 _ rfl).1
 have r1 := (lr4 1 _ rfl).1
 have r2 := (lr4 2 _ rfl).1
 have r3 := (lr4 3 _ rfl).1
 have r4 := (lr4 4 _ rfl).1
 have s0 := (lr4 0 _ rfl).2
 have s1 := (lr4 1 _ rfl).2
 have s2 := (lr4 2 _ rfl).2
 have s3 := (lr4 3 _ rfl).2
 have s4 := (lr4 4 _ rfl).2
 go_upto_region 2 with (fail)
 have halx : Below w4.heap.size w4 (w4.alloc (.cells #[.int .i64 n, .slice A1 cs.length n1, .slice A2 pl.length n2, .slice A4 ds.length n4, .int .i64 m] 30)) := (Below.refl _ _).alloc (Nat.le_refl _) _
 have Lx : Loc (w4.alloc (.cells #[.int .i64 n, .slice A1 cs.length n1, .slice A2 pl.length n2, .slice A4 ds.length n4, .int .i64 m] 30)) w4.heap.size [.int .i64 n, .slice A1 cs.length n1, .slice A2 pl.length n2, .slice A4 ds.length n4, .int .i64 m] := Loc.new w4 #[.int .i64 n, .slice A1 cs.length n1, .slice A2 pl.length n2, .slice A4 ds.length n4, .int .i64 m] 30
 clear r0 r1 r2 r3 r4 s0 s1 s2 s3 s4
 have lr5 := lr4.below halx
 have hft5 := hft.below halx
 have hff5 := fresh_mono hff (Nat.le_refl _) halx.size
 have hc5 := hc4.keep halx
 have hch5 := hchw4.trans (Chg.of_below halx _)
 obtain ⟨xb, hxb⟩ : ∃ xb, w4.heap.size = xb := ⟨_, rfl⟩
 rw [hxb] at Lx
 generalize w4.alloc (.cells #[.int .i64 n, .slice A1 cs.length n1, .slice A2 pl.length n2, .slice A4 ds.length n4, .int .i64 m] 30) = W at *
 (try rw [hxb])
 clear halx hxb lr4 hft hff hc4 hchw4
 have x0 := (Lx 0 _ rfl).1
 have x1 := (Lx 1 _ rfl).1
 have x2 := (Lx 2 _ rfl).1
 have x3 := (Lx 3 _ rfl).1
 have x4 := (Lx 4 _ rfl).1
 have r0 := (lr5 0 _ rfl).1
 have r1 := (lr5 1 _ rfl).1
 have r2 := (lr5 2 _ rfl).1
 have r3 := (lr5 3 _ rfl).1
 have r4 := (lr5 4 _ rfl).1
 have s0 := (lr5 0 _ rfl).2
 have s1 := (lr5 1 _ rfl).2
 have s2 := (lr5 2 _ rfl).2
 have s3 := (lr5 3 _ rfl).2
 have s4 := (lr5 4 _ rfl).2
 go_wp2_with fail
 have hch9 : Chg [rb] W (((((W.setCell ⟨rb, 0, none⟩ (.int .i64 n)).setCell ⟨rb, 1, none⟩ (.slice A1 cs.length n1)).setCell ⟨rb, 2, none⟩ (.slice A2 pl.length n2)).setCell ⟨rb, 3, none⟩ (.slice A4 ds.length n4)).setCell ⟨rb, 4, none⟩ (.int .i64 m)) := by repeat' (with_reducible first | exact Chg.refl _ _ | refine qC ?_)
 refine bodyPost_ret (v := .agg #[.int .i64 n, .slice A1 cs.length n1, .slice A2 pl.length n2, .slice A4 ds.length n4, .int .i64 m]) (by simp [results, Tryz.results25, go_sem, *]) rfl ⟨n, m, cs, pl, ds, _, _, _, S, rfl, hft5.chg hch9 (fun b hb hb' => by have := (hff5.2 b hb).1; simp at hb'; omega), fresh_mono hff5 (by omega) hch9.size, ⟨HCO.out, HK.out.1, HK.out.2, hm2⟩, hc5.chg hch9 (by simp; omega) (by simp; omega), chg_low hch5 hch9 (by simp; omega)⟩
def ActPost (w0 w : World) (g : Nat) (A : Option Addr) (c : Nat) (bs : List Int) (e : Ending) (w' : World) : Prop :=
 ∃ k a b : Int, e = .returned (.agg #[.int .i64 k, .int .i64 a, .int .i64 b]) ∧ actB k a b = true ∧ Cur w0 w' g A c bs ∧ Chg [g] w w'
theorem act_1 {a : Int} (h : 0 ≤ a ∧ a < 3) : actB 1 a 0 = true := by unfold actB; simp [inB]; omega
theorem act_2 {a b : Int} (h : 0 ≤ a ∧ a < 3) (h2 : 0 ≤ b ∧ b < 4) : actB 2 a b = true := by unfold actB; simp [inB]; omega
theorem act_3 {a : Int} (h : 0 ≤ a ∧ a < 3) : actB 3 a 0 = true := by unfold actB; simp [inB]; omega
theorem act_4 {a : Int} (h : 0 ≤ a ∧ a < 3) : actB 4 a 0 = true := by unfold actB; simp [inB]; omega
theorem act_6 {a : Int} (h : 0 ≤ a ∧ a < 12) : actB 6 a 0 = true := by unfold actB; simp [inB]; omega
set_option maxHeartbeats 8000000 in
set_option maxRecDepth 100000 in
theorem l39Act_any (w0 w : World) (g : Nat) (A : Option Addr) (c : Nat) (bs : List Int) (hcur : Cur w0 w g A c bs) :
  Calls Tryz.prog 26 #[.pointer (some ⟨g, 0, none⟩)] w (ActPost w0 w g A c bs) := by
 have hglt := hcur.lt
 have hw0 := hcur.below.size
 go_enter Tryz.func26, Tryz.ntmps26
 go_upto_region 1 with (fail)
 have lr0 : Loc (w.alloc (.cells #[.int .i64 0, .int .i64 0, .int .i64 0] 49)) w.heap.size [.int .i64 0, .int .i64 0, .int .i64 0] := Loc.new w #[.int .i64 0, .int .i64 0, .int .i64 0] 49
 have hal0 : Below w.heap.size w (w.alloc (.cells #[.int .i64 0, .int .i64 0, .int .i64 0] 49)) := (Below.refl _ _).alloc (Nat.le_refl _) _
 have hc0 := hcur.keep hal0
 have hch0 := Chg.of_below hal0 [g]
 have hlr : w.heap.size < (w.alloc (.cells #[.int .i64 0, .int .i64 0, .int .i64 0] 49)).heap.size := by simp
 obtain ⟨rb, hrb⟩ : ∃ rb, w.heap.size = rb := ⟨_, rfl⟩
 have hwrb : w.heap.size ≤ rb := by omega
 have hgrb : g < rb := by omega
 rw [hrb] at hlr
 generalize w.alloc (.cells #[.int .i64 0, .int .i64 0, .int .i64 0] 49) = V at *
 (try rw [hrb])
 rw [hrb] at lr0
 clear hrb hal0
 go_wp2_with fail
 refine (l01Below_any 9 w0 V g A c bs hc0 (by omega) (by omega)).mono ?_
 rintro e w1 ⟨r, rfl, ⟨hr0, hr1⟩, hc1, hch1⟩
 have lr1 := lr0.chg hch1 (by simp; omega)
 have hchw1 := hch0.trans hch1
 clear hc0 hch0 lr0 hch1
 have hr : r = 0 ∨ r = 1 ∨ r = 2 ∨ r = 3 ∨ r = 4 ∨ r = 5 ∨ r = 6 ∨ r = 7 ∨ r = 8 := by omega
 clear hr0 hr1
 rcases hr with rfl | rfl | rfl | rfl | rfl | rfl | rfl | rfl | rfl
 ·skip
  go_wp2_with fail
  refine (l01Below_any 3 w0 w1 g A c bs hc1 (by omega) (by omega)).mono ?_
  rintro e w2 ⟨a, rfl, ha, hc2, hch2⟩
  have lr2 := lr1.chg hch2 (by simp; omega)
  have hchw2 := hchw1.trans hch2
  have f0 := (lr2 0 _ rfl).2
  have f1 := (lr2 1 _ rfl).2
  have f2 := (lr2 2 _ rfl).2
  have r0 := (lr2 0 _ rfl).1
  have r1 := (lr2 1 _ rfl).1
  have r2 := (lr2 2 _ rfl).1
  go_wp2_with fail
  have hch9 : Chg [rb] w2 (((w2.setCell ⟨rb, 0, none⟩ (.int .i64 1)).setCell ⟨rb, 1, none⟩ (.int .i64 a)).setCell ⟨rb, 2, none⟩ (.int .i64 0)) := by repeat' (with_reducible first | exact Chg.refl _ _ | refine qC ?_)
  exact bodyPost_ret (v := .agg #[.int .i64 1, .int .i64 a, .int .i64 0]) (by simp [results, Tryz.results26, go_sem, *]) rfl ⟨1, a, 0, rfl, act_1 ha, hc2.chg hch9 (by simp; omega) (by simp; omega), chg_low hchw2 hch9 (by simp; omega)⟩
 ·skip
  go_wp2_with fail
  refine (l01Below_any 3 w0 w1 g A c bs hc1 (by omega) (by omega)).mono ?_
  rintro e w2 ⟨a, rfl, ha, hc2, hch2⟩
  have lr2 := lr1.chg hch2 (by simp; omega)
  have hchw2 := hchw1.trans hch2
  go_wp2_with fail
  refine (l01Below_any 4 w0 w2 g A c bs hc2 (by omega) (by omega)).mono ?_
  rintro e w3 ⟨b, rfl, hb, hc3, hch3⟩
  have lr3 := lr2.chg hch3 (by simp; omega)
  have hchw3 := hchw2.trans hch3
  have f0 := (lr3 0 _ rfl).2
  have f1 := (lr3 1 _ rfl).2
  have f2 := (lr3 2 _ rfl).2
  have r0 := (lr3 0 _ rfl).1
  have r1 := (lr3 1 _ rfl).1
  have r2 := (lr3 2 _ rfl).1
  go_wp2_with fail
  have hch9 : Chg [rb] w3 (((w3.setCell ⟨rb, 0, none⟩ (.int .i64 2)).setCell ⟨rb, 1, none⟩ (.int .i64 a)).setCell ⟨rb, 2, none⟩ (.int .i64 b)) := by repeat' (with_reducible first | exact Chg.refl _ _ | refine qC ?_)
  exact bodyPost_ret (v := .agg #[.int .i64 2, .int .i64 a, .int .i64 b]) (by simp [results, Tryz.results26, go_sem, *]) rfl ⟨2, a, b, rfl, act_2 ha hb, hc3.chg hch9 (by simp; omega) (by simp; omega), chg_low hchw3 hch9 (by simp; omega)⟩
 ·skip
  go_wp2_with fail
  refine (l01Below_any 3 w0 w1 g A c bs hc1 (by omega) (by omega)).mono ?_
  rintro e w2 ⟨a, rfl, ha, hc2, hch2⟩
  have lr2 := lr1.chg hch2 (by simp; omega)
  have hchw2 := hchw1.trans hch2
  go_wp2_with fail
  refine (l01Below_any 4 w0 w2 g A c bs hc2 (by omega) (by omega)).mono ?_
  rintro e w3 ⟨b, rfl, hb, hc3, hch3⟩
  have lr3 := lr2.chg hch3 (by simp; omega)
  have hchw3 := hchw2.trans hch3
  have f0 := (lr3 0 _ rfl).2
  have f1 := (lr3 1 _ rfl).2
  have f2 := (lr3 2 _ rfl).2
  have r0 := (lr3 0 _ rfl).1
  have r1 := (lr3 1 _ rfl).1
  have r2 := (lr3 2 _ rfl).1
  go_wp2_with fail
  have hch9 : Chg [rb] w3 (((w3.setCell ⟨rb, 0, none⟩ (.int .i64 2)).setCell ⟨rb, 1, none⟩ (.int .i64 a)).setCell ⟨rb, 2, none⟩ (.int .i64 b)) := by repeat' (with_reducible first | exact Chg.refl _ _ | refine qC ?_)
  exact bodyPost_ret (v := .agg #[.int .i64 2, .int .i64 a, .int .i64 b]) (by simp [results, Tryz.results26, go_sem, *]) rfl ⟨2, a, b, rfl, act_2 ha hb, hc3.chg hch9 (by simp; omega) (by simp; omega), chg_low hchw3 hch9 (by simp; omega)⟩
 ·skip
  go_wp2_with fail
  refine (l01Below_any 3 w0 w1 g A c bs hc1 (by omega) (by omega)).mono ?_
  rintro e w2 ⟨a, rfl, ha, hc2, hch2⟩
  have lr2 := lr1.chg hch2 (by simp; omega)
  have hchw2 := hchw1.trans hch2
  have f0 := (lr2 0 _ rfl).2
  have f1 := (lr2 1 _ rfl).2
  have f2 := (lr2 2 _ rfl).2
  have r0 := (lr2 0 _ rfl).1
  have r1 := (lr2 1 _ rfl).1
  have r2 := (lr2 2 _ rfl).1
  go_wp2_with fail
  have hch9 : Chg [rb] w2 (((w2.setCell ⟨rb, 0, none⟩ (.int .i64 3)).setCell ⟨rb, 1, none⟩ (.int .i64 a)).setCell ⟨rb, 2, none⟩ (.int .i64 0)) := by repeat' (with_reducible first | exact Chg.refl _ _ | refine qC ?_)
  exact bodyPost_ret (v := .agg #[.int .i64 3, .int .i64 a, .int .i64 0]) (by simp [results, Tryz.results26, go_sem, *]) rfl ⟨3, a, 0, rfl, act_3 ha, hc2.chg hch9 (by simp; omega) (by simp; omega), chg_low hchw2 hch9 (by simp; omega)⟩
 ·skip
  go_wp2_with fail
  refine (l01Below_any 3 w0 w1 g A c bs hc1 (by omega) (by omega)).mono ?_
  rintro e w2 ⟨a, rfl, ha, hc2, hch2⟩
  have lr2 := lr1.chg hch2 (by simp; omega)
  have hchw2 := hchw1.trans hch2
  have f0 := (lr2 0 _ rfl).2
  have f1 := (lr2 1 _ rfl).2
  have f2 := (lr2 2 _ rfl).2
  have r0 := (lr2 0 _ rfl).1
  have r1 := (lr2 1 _ rfl).1
  have r2 := (lr2 2 _ rfl).1
  go_wp2_with fail
  have hch9 : Chg [rb] w2 (((w2.setCell ⟨rb, 0, none⟩ (.int .i64 4)).setCell ⟨rb, 1, none⟩ (.int .i64 a)).setCell ⟨rb, 2, none⟩ (.int .i64 0)) := by repeat' (with_reducible first | exact Chg.refl _ _ | refine qC ?_)
  exact bodyPost_ret (v := .agg #[.int .i64 4, .int .i64 a, .int .i64 0]) (by simp [results, Tryz.results26, go_sem, *]) rfl ⟨4, a, 0, rfl, act_4 ha, hc2.chg hch9 (by simp; omega) (by simp; omega), chg_low hchw2 hch9 (by simp; omega)⟩
 ·skip
  have f0 := (lr1 0 _ rfl).2
  have f1 := (lr1 1 _ rfl).2
  have f2 := (lr1 2 _ rfl).2
  have r0 := (lr1 0 _ rfl).1
  have r1 := (lr1 1 _ rfl).1
  have r2 := (lr1 2 _ rfl).1
  go_wp2_with fail
  have hch9 : Chg [rb] w1 (((w1.setCell ⟨rb, 0, none⟩ (.int .i64 5)).setCell ⟨rb, 1, none⟩ (.int .i64 0)).setCell ⟨rb, 2, none⟩ (.int .i64 0)) := by repeat' (with_reducible first | exact Chg.refl _ _ | refine qC ?_)
  exact bodyPost_ret (v := .agg #[.int .i64 5, .int .i64 0, .int .i64 0]) (by simp [results, Tryz.results26, go_sem, *]) rfl ⟨5, 0, 0, rfl, by decide, hc1.chg hch9 (by simp; omega) (by simp; omega), chg_low hchw1 hch9 (by simp; omega)⟩
 ·skip
  go_wp2_with fail
  refine (l01Below_any 12 w0 w1 g A c bs hc1 (by omega) (by omega)).mono ?_
  rintro e w2 ⟨a, rfl, ha, hc2, hch2⟩
  have lr2 := lr1.chg hch2 (by simp; omega)
  have hchw2 := hchw1.trans hch2
  have f0 := (lr2 0 _ rfl).2
  have f1 := (lr2 1 _ rfl).2
  have f2 := (lr2 2 _ rfl).2
  have r0 := (lr2 0 _ rfl).1
  have r1 := (lr2 1 _ rfl).1
  have r2 := (lr2 2 _ rfl).1
  go_wp2_with fail
  have hch9 : Chg [rb] w2 (((w2.setCell ⟨rb, 0, none⟩ (.int .i64 6)).setCell ⟨rb, 1, none⟩ (.int .i64 a)).setCell ⟨rb, 2, none⟩ (.int .i64 0)) := by repeat' (with_reducible first | exact Chg.refl _ _ | refine qC ?_)
  exact bodyPost_ret (v := .agg #[.int .i64 6, .int .i64 a, .int .i64 0]) (by simp [results, Tryz.results26, go_sem, *]) rfl ⟨6, a, 0, rfl, act_6 ha, hc2.chg hch9 (by simp; omega) (by simp; omega), chg_low hchw2 hch9 (by simp; omega)⟩
 ·skip
  go_wp2_with fail
  refine (l01Below_any 12 w0 w1 g A c bs hc1 (by omega) (by omega)).mono ?_
  rintro e w2 ⟨a, rfl, ha, hc2, hch2⟩
  have lr2 := lr1.chg hch2 (by simp; omega)
  have hchw2 := hchw1.trans hch2
  have f0 := (lr2 0 _ rfl).2
  have f1 := (lr2 1 _ rfl).2
  have f2 := (lr2 2 _ rfl).2
  have r0 := (lr2 0 _ rfl).1
  have r1 := (lr2 1 _ rfl).1
  have r2 := (lr2 2 _ rfl).1
  go_wp2_with fail
  have hch9 : Chg [rb] w2 (((w2.setCell ⟨rb, 0, none⟩ (.int .i64 6)).setCell ⟨rb, 1, none⟩ (.int .i64 a)).setCell ⟨rb, 2, none⟩ (.int .i64 0)) := by repeat' (with_reducible first | exact Chg.refl _ _ | refine qC ?_)
  exact bodyPost_ret (v := .agg #[.int .i64 6, .int .i64 a, .int .i64 0]) (by simp [results, Tryz.results26, go_sem, *]) rfl ⟨6, a, 0, rfl, act_6 ha, hc2.chg hch9 (by simp; omega) (by simp; omega), chg_low hchw2 hch9 (by simp; omega)⟩
 ·skip
  have f0 := (lr1 0 _ rfl).2
  have f1 := (lr1 1 _ rfl).2
  have f2 := (lr1 2 _ rfl).2
  have r0 := (lr1 0 _ rfl).1
  have r1 := (lr1 1 _ rfl).1
  have r2 := (lr1 2 _ rfl).1
  go_wp2_with fail
  have hch9 : Chg [rb] w1 (((w1.setCell ⟨rb, 0, none⟩ (.int .i64 7)).setCell ⟨rb, 1, none⟩ (.int .i64 0)).setCell ⟨rb, 2, none⟩ (.int .i64 0)) := by repeat' (with_reducible first | exact Chg.refl _ _ | refine qC ?_)
  exact bodyPost_ret (v := .agg #[.int .i64 7, .int .i64 0, .int .i64 0]) (by simp [results, Tryz.results26, go_sem, *]) rfl ⟨7, 0, 0, rfl, by decide, hc1.chg hch9 (by simp; omega) (by simp; omega), chg_low hchw1 hch9 (by simp; omega)⟩
def ActsPost (w0 w : World) (g : Nat) (A : Option Addr) (c : Nat) (bs : List Int) (e : Ending) (w' : World) : Prop :=
 ∃ (v : Value) (l : List RAct), e = .returned v ∧ w'.ownsRow w.heap.size 49 3 v l.length (l.flatMap cAct) ∧ l.length ≤ 13 ∧ (∀ a ∈ l, actB a.1 a.2.1 a.2.2 = true) ∧ Cur w0 w' g A c bs ∧ Chg [g] w w'
set_option maxHeartbeats 4000000 in
set_option maxRecDepth 100000 in
theorem l39List_any (w0 w : World) (g : Nat) (A : Option Addr) (c : Nat) (bs : List Int) (hcur : Cur w0 w g A c bs) :
  Calls Tryz.prog 13 #[.pointer (some ⟨g, 0, none⟩)] w (ActsPost w0 w g A c bs) := by
 have hglt := hcur.lt
 have hw0 := hcur.below.size
 obtain ⟨i0, hi0, hz0, hz1, hz2⟩ := info_parts infoAct
 go_enter Tryz.func13, Tryz.ntmps13
 go_wp2_with fail
 refine (l01Below_any 14 w0 _ g A c bs (hcur.keep ((Below.refl _ _).alloc (Nat.le_refl _) _)) (by omega) (by omega)).mono ?_
 rintro e w1 ⟨r, rfl, ⟨hr0, hr1⟩, hc1, hch1⟩
 obtain ⟨n, rfl⟩ := Int.eq_ofNat_of_zero_le hr0
 have hn : n ≤ 13 := by omega
 have hown1 := own_draw (World.ownsRow_made (size := 3) (e := 49) w #[] 0 (Nat.le_refl _) (by simp [maxLen]) rfl) hch1 hglt
 have hchw1 := ((Chg.refl [g] w).alloc (.cells #[] 49)).trans hch1
 clear hr0 hr1 hch1
 go_wp2_with fail
 go_loopw [3, 5] (fun q i wr => ∃ (k : Nat) (l : List RAct), k ≤ n ∧ i = .int .i64 k ∧ Hid (l.length = k) ∧ Hid (∀ a ∈ l, actB a.1 a.2.1 a.2.2 = true) ∧ wr.ownsRow w.heap.size 49 3 q l.length (l.flatMap cAct) ∧ Cur w0 wr g A c bs ∧ Chg [g] w wr) (fun _ i _ => n - (intOf i).toNat)
 case atStart => exact ⟨0, [], Nat.zero_le _, rfl, rfl, by simp [Hid], hown1, hc1, hchw1⟩
 case round =>
  obtain ⟨k, l, hk, rfl, hll, hval, hown, hc, hch⟩ := hrel
  clear hown1 hc1 hchw1
  have hzw := hch.size
  obtain ⟨Aq, cq, rfl, _, _⟩ := (RdS.of_own hown).form
  by_cases hlt : k < n
  ·have hl13 : l.length ≤ 13 := by have := hll.out; omega
   go_wp2_with fail
   refine (l39Act_any w0 wr g A c bs hc).mono ?_
   rintro e w3 ⟨ka, aa, ba, rfl, hact, hc3, hch3⟩
   have HA := Lib.hid hact
   have hown3 := own_draw hown hch3 hglt
   have hchw3 := hch.trans hch3
   clear hown hc hch hch3 hact
   go_upto_region 7 with (fail)
   have hal : Below w3.heap.size w3 (w3.alloc (.cells #[.int .i64 ka, .int .i64 aa, .int .i64 ba] 49)) := (Below.refl _ _).alloc (Nat.le_refl _) _
   have Lb : Loc (w3.alloc (.cells #[.int .i64 ka, .int .i64 aa, .int .i64 ba] 49)) w3.heap.size [.int .i64 ka, .int .i64 aa, .int .i64 ba] := Loc.new w3 #[.int .i64 ka, .int .i64 aa, .int .i64 ba] 49
   have hown5 := own_below hown3 hal
   have hc5 := hc3.keep hal
   have hch5 := hchw3.trans (Chg.of_below hal _)
   obtain ⟨gb, hgb⟩ : ∃ b, w3.heap.size = b := ⟨_, rfl⟩
   rw [hgb] at Lb
   generalize w3.alloc (.cells #[.int .i64 ka, .int .i64 aa, .int .i64 ba] 49) = W at *
   (try rw [hgb])
   clear hal hgb hown3 hc3 hchw3
   have k0 := (Lb 0 _ rfl).1
   have k1 := (Lb 1 _ rfl).1
   have k2 := (Lb 2 _ rfl).1
   have hz5 := hch5.size
   go_wp2_with (at_builtin; go_must (refine wpList_appendR _ rfl (.tmp 17) (.tmp 19) _ rfl w.heap.size 49 i0 _ 3 24 Tryz.underlying31 hi0 hz0 hz1 hz2 rfl (by omega) _ l.length (l.flatMap cAct) rfl (hown5.alloc _) _ 1 [.int .i64 ka, .int .i64 aa, .int .i64 ba] rfl (rdS_new W #[.int .i64 ka, .int .i64 aa, .int .i64 ba] _ 3 1 rfl (by simp [maxLen])) (by simp [Value.oneCell']) (by simp [maxLen]; omega) (by omega) (by simp; omega) ?_); intro v9 w9 hown9 hgr9)
   have hch9 := chg_of_own (hch5.alloc (.cells #[.int .i64 ka, .int .i64 aa, .int .i64 ba] 49)) (hown5.alloc _) hgr9
   have hc9 := cur_own (hc5.keep ((Below.refl _ _).alloc (Nat.le_refl _) (.cells #[.int .i64 ka, .int .i64 aa, .int .i64 ba] 49))) (hown5.alloc _) hgr9 hglt hw0
   go_wp2_with fail
   go_roundw
   case rel =>
    refine ⟨k + 1, l ++ [(ka, aa, ba)], by omega, by go_num, by show _ = _; rw [List.length_append, hll.out]; rfl, ?_, by rw [List.length_append, List.flatMap_append]; exact hown9, hc9, hch9⟩
    intro a ha
    rcases List.mem_append.1 ha with h | h
    ·exact hval.out a h
    ·simp at h; subst h; exact HA.out
   case measure => simp [intOf]; omega
  ·obtain rfl : k = n := by omega
   go_wp2_with fail
   go_ret
   exact ⟨_, l, rfl, hown, by have := hll.out; omega, hval.out, hc, hch⟩
set_option maxHeartbeats 8000000 in
set_option maxRecDepth 100000 in
theorem l39Theatre_any (w0 w : World) (g : Nat) (A : Option Addr) (c : Nat) (bs : List Int) (hcur : Cur w0 w g A c bs) :
  Calls Tryz.prog 12 #[.pointer (some ⟨g, 0, none⟩)] w (ThB w0 w g A c bs) := by
 have hglt := hcur.lt
 have hw0 := hcur.below.size
 go_enter Tryz.func12, Tryz.ntmps12
 go_upto_region 1 with (fail)
 have lr0 : Loc (w.alloc (.cells #[.int .i64 0, .slice none 0 0, .slice none 0 0, .slice none 0 0, .int .i64 0] 30)) w.heap.size [.int .i64 0, .slice none 0 0, .slice none 0 0, .slice none 0 0, .int .i64 0] := Loc.new w #[.int .i64 0, .slice none 0 0, .slice none 0 0, .slice none 0 0, .int .i64 0] 30
 have hal0 : Below w.heap.size w (w.alloc (.cells #[.int .i64 0, .slice none 0 0, .slice none 0 0, .slice none 0 0, .int .i64 0] 30)) := (Below.refl _ _).alloc (Nat.le_refl _) _
 have hc0 := hcur.keep hal0
 have hch0 := Chg.of_below hal0 [g]
 have hlr : w.heap.size + 1 ≤ (w.alloc (.cells #[.int .i64 0, .slice none 0 0, .slice none 0 0, .slice none 0 0, .int .i64 0] 30)).heap.size := by simp
 obtain ⟨rb, hrb⟩ : ∃ rb, w.heap.size = rb := ⟨_, rfl⟩
 have hwrb : w.heap.size ≤ rb := by omega
 have hgrb : g < rb := by omega
 rw [hrb] at hlr
 generalize w.alloc (.cells #[.int .i64 0, .slice none 0 0, .slice none 0 0, .slice none 0 0, .int .i64 0] 30) = V at *
 (try rw [hrb])
 rw [hrb] at lr0
 clear hrb hal0
 go_wp2_with fail
 refine (l01Once_any 2 w0 V g A c bs hc0 (by omega) (by omega)).mono ?_
 rintro e w1 ⟨b, rfl, hc1, hch1⟩
 have lr1 := lr0.chg hch1 (by simp; omega)
 have hchw1 := hch0.trans hch1
 have hz1 := hch1.size
 clear hc0 hch0 lr0 hch1
 cases b
 ·go_wp2_with fail
  refine (l38Theatre_any w0 w1 g A c bs hc1).mono ?_
  rintro e w2 ⟨n, m, cs, pl, ds, x1, x2, x3, S, rfl, ow, fr, hth, hc2, hch2⟩
  obtain ⟨⟨A1, n1, rfl⟩, ⟨A2, n2, rfl⟩, ⟨A3, n3, rfl⟩⟩ := ow.rd.forms
  have HT := Lib.hid hth.ok
  have lr2 := lr1.chg hch2 (by simp; omega)
  have hchw2 := hchw1.trans hch2
  clear hth lr1 hchw1 hch2 hc1
  have r0 := (lr2 0 _ rfl).1
  have r1 := (lr2 1 _ rfl).1
  have r2 := (lr2 2 _ rfl).1
  have r3 := (lr2 3 _ rfl).1
  have r4 := (lr2 4 _ rfl).1
  have s0 := (lr2 0 _ rfl).2
  have s1 := (lr2 1 _ rfl).2
  have s2 := (lr2 2 _ rfl).2
  have s3 := (lr2 3 _ rfl).2
  have s4 := (lr2 4 _ rfl).2
  go_wp2_with fail
  have hch9 : Chg [rb] w2 (((((w2.setCell ⟨rb, 0, none⟩ (.int .i64 n)).setCell ⟨rb, 1, none⟩ (.slice A1 cs.length n1)).setCell ⟨rb, 2, none⟩ (.slice A2 pl.length n2)).setCell ⟨rb, 3, none⟩ (.slice A3 ds.length n3)).setCell ⟨rb, 4, none⟩ (.int .i64 m)) := by repeat' (with_reducible first | exact Chg.refl _ _ | refine qC ?_)
  exact bodyPost_ret (v := .agg #[.int .i64 n, .slice A1 cs.length n1, .slice A2 pl.length n2, .slice A3 ds.length n3, .int .i64 m]) (by simp [results, Tryz.results12, go_sem, *]) rfl ⟨n, m, _, _, _, _, _, _, _, rfl, ow.chg hch9 (fun b hb hb' => by have := (fr.2 b hb).1; simp at hb'; omega), fresh_mono fr (by omega) hch9.size, HT.out, hc2.chg hch9 (by simp; omega) (by simp; omega), chg_low hchw2 hch9 (by simp; omega)⟩
 ·go_wp2_with fail
  refine (specSampleTheatre_any w1).mono ?_
  rintro e w2 ⟨x1, x2, x3, S, rfl, ow, fr, hb2⟩
  obtain ⟨⟨A1, n1, rfl⟩, ⟨A2, n2, rfl⟩, ⟨A3, n3, rfl⟩⟩ := ow.rd.forms
  have HT := Lib.hid samp_ok
  have lr2 := lr1.below hb2
  have hchw2 := hchw1.trans (Chg.of_below hb2 _)
  have hc2 := hc1.keep hb2
  have he0 : ([] : List RCross).length = 0 := rfl
  have he1 : ([] : List Int).length = 0 := rfl
  generalize onePl = opl at *
  generalize ([] : List RCross) = ecs at *
  generalize ([] : List Int) = eds at *
  clear lr1 hchw1 hb2 hc1 he0 he1
  have r0 := (lr2 0 _ rfl).1
  have r1 := (lr2 1 _ rfl).1
  have r2 := (lr2 2 _ rfl).1
  have r3 := (lr2 3 _ rfl).1
  have r4 := (lr2 4 _ rfl).1
  have s0 := (lr2 0 _ rfl).2
  have s1 := (lr2 1 _ rfl).2
  have s2 := (lr2 2 _ rfl).2
  have s3 := (lr2 3 _ rfl).2
  have s4 := (lr2 4 _ rfl).2
  go_wp2_with fail
  have hch9 : Chg [rb] w2 (((((w2.setCell ⟨rb, 0, none⟩ (.int .i64 3)).setCell ⟨rb, 1, none⟩ (.slice A1 ecs.length n1)).setCell ⟨rb, 2, none⟩ (.slice A2 opl.length n2)).setCell ⟨rb, 3, none⟩ (.slice A3 eds.length n3)).setCell ⟨rb, 4, none⟩ (.int .i64 60)) := by repeat' (with_reducible first | exact Chg.refl _ _ | refine qC ?_)
  exact bodyPost_ret (v := .agg #[.int .i64 3, .slice A1 ecs.length n1, .slice A2 opl.length n2, .slice A3 eds.length n3, .int .i64 60]) (by simp [results, Tryz.results12, go_sem, *]) rfl ⟨3, 60, _, _, _, _, _, _, _, rfl, ow.chg hch9 (fun b hb hb' => by have := (fr.2 b hb).1; simp at hb'; omega), fresh_mono fr (by omega) hch9.size, HT.out, hc2.chg hch9 (by simp; omega) (by simp; omega), chg_low hchw2 hch9 (by simp; omega)⟩
open Go.RowKit
def DrawnActs (w : World) (e : Ending) (w' : World) : Prop :=
 ∃ (n m : Int) (cs : List RCross) (pl : List RPl) (ds : List Int) (x1 x2 x3 v : Value) (acts : List RAct), e = .returned (.tuple #[.agg #[.int .i64 n, x1, x2, x3, .int .i64 m], v]) ∧ RdTheatre w' x1 x2 x3 cs pl ds ∧ RdL cAct 3 w' v acts ∧ theatreB n m cs pl ds = true ∧ acts.length ≤ 13 ∧ (∀ a ∈ acts, actB a.1 a.2.1 a.2.2 = true) ∧ Below w.heap.size w w'
theorem act13da {a : Act} (h : a.tmps.size = 13) (hd : a.defers = []) : ∃ x0 x1 x2 x3 x4 x5 x6 x7 x8 x9 x10 x11 x12 : Value, a = ⟨#[x0, x1, x2, x3, x4, x5, x6, x7, x8, x9, x10, x11, x12], []⟩ := by
 obtain ⟨⟨l⟩, d⟩ := a
 subst hd
 match l, h with
 | [x0, x1, x2, x3, x4, x5, x6, x7, x8, x9, x10, x11, x12], _ => exact ⟨x0, x1, x2, x3, x4, x5, x6, x7, x8, x9, x10, x11, x12, rfl⟩
def rdaP (n m : Int) (A1 A2 A3 : Option Addr) (cl pln dl n1 n2 n3 g gt : Nat) (i : Nat) (v : Value) (_ : Nat → Nat) (w : World) : Prop :=
 match i with
 | 0 => v = .agg #[.int .i64 n, .slice A1 cl n1, .slice A2 pln n2, .slice A3 dl n3, .int .i64 m]
 | 1 => v = .pointer (some ⟨g, 0, none⟩)
 | 2 => ∃ (A5 : Option Addr) (n5 : Nat) (acts : List RAct), v = .slice A5 acts.length n5 ∧ w.ownsRow gt 49 3 (.slice A5 acts.length n5) acts.length (acts.flatMap cAct) ∧ acts.length ≤ 13 ∧ ∀ a ∈ acts, actB a.1 a.2.1 a.2.2 = true
 | _ => True
def rdaNeed (k : Nat) : List Nat := if k = 2 then [1] else []
def rdaBef (k : Nat) : List Nat := if k = 2 then [1] else []
def rdaR (k : Nat) (_ : Nat → Nat) (w w' : World) : Prop := k = 2 ∨  Below w.heap.size w w'
set_option maxHeartbeats 8000000 in
set_option maxRecDepth 100000 in
theorem drawActs_any (A : Option Addr) (c : Nat) (bs : List Int) (w : World) (h : RdL cU8 1 w (.slice A bs.length c) bs) (hby : ∀ x ∈ bs, 0 ≤ x ∧ x ≤ 255) (hlen : bs.length ≤ 1048576) :
  Calls Tryz.prog 5 #[.slice A bs.length c] w (DrawnActs w) := by
 go_enter Tryz.func5, Tryz.ntmps5
 go_upto_region 1 with (fail)
 have lr0 : Loc (w.alloc (.cells #[.int .i64 0, .slice none 0 0, .slice none 0 0, .slice none 0 0, .int .i64 0] 30)) w.heap.size [.int .i64 0, .slice none 0 0, .slice none 0 0, .slice none 0 0, .int .i64 0] := Loc.new w #[.int .i64 0, .slice none 0 0, .slice none 0 0, .slice none 0 0, .int .i64 0] 30
 have hal0 : Below w.heap.size w (w.alloc (.cells #[.int .i64 0, .slice none 0 0, .slice none 0 0, .slice none 0 0, .int .i64 0] 30)) := (Below.refl _ _).alloc (Nat.le_refl _) _
 have hlr : w.heap.size + 1 ≤ (w.alloc (.cells #[.int .i64 0, .slice none 0 0, .slice none 0 0, .slice none 0 0, .int .i64 0] 30)).heap.size := by simp
 obtain ⟨rb, hrb⟩ : ∃ rb, w.heap.size = rb := ⟨_, rfl⟩
 have hwrb : w.heap.size ≤ rb := by omega
 rw [hrb] at hlr
 have hV := h.below hal0
 generalize w.alloc (.cells #[.int .i64 0, .slice none 0 0, .slice none 0 0, .slice none 0 0, .int .i64 0] 30) = V at *
 (try rw [hrb])
 rw [hrb] at lr0
 clear hrb
 go_wp2_with fail
 refine (l01New_any A c bs V hV hby hlen).mono ?_
 rintro e w1 ⟨g, rfl, hc1⟩
 have hgV := hc1.base
 have lr1 := lr0.below hc1.below
 go_wp2_with fail
 refine (l39Theatre_any V w1 g A c bs hc1).mono ?_
 rintro e w2 ⟨n, m, cs, pl, ds, x1, x2, x3, S, rfl, ow, fr, hth, hc2, hch2⟩
 obtain ⟨⟨A1, n1, rfl⟩, ⟨A2, n2, rfl⟩, ⟨A3, n3, rfl⟩⟩ := ow.rd.forms
 have lr2 := lr1.chg hch2 (by simp; omega)
 have HT := Lib.hid hth
 have hz1 := hc1.below.size
 have hg1 := hc1.lt
 have hb2 : Below w.heap.size w w2 := bl_trans hal0 hc2.below
 have hz2 := hch2.size
 clear hth lr0 lr1 hc1
 go_upto_region 3 with (fail)
 have halx : Below w2.heap.size w2 (w2.alloc (.cells #[.int .i64 n, .slice A1 cs.length n1, .slice A2 pl.length n2, .slice A3 ds.length n3, .int .i64 m] 30)) := (Below.refl _ _).alloc (Nat.le_refl _) _
 have Lt : Loc (w2.alloc (.cells #[.int .i64 n, .slice A1 cs.length n1, .slice A2 pl.length n2, .slice A3 ds.length n3, .int .i64 m] 30)) w2.heap.size [.int .i64 n, .slice A1 cs.length n1, .slice A2 pl.length n2, .slice A3 ds.length n3, .int .i64 m] := Loc.new w2 #[.int .i64 n, .slice A1 cs.length n1, .slice A2 pl.length n2, .slice A3 ds.length n3, .int .i64 m] 30
 have lr3 := lr2.below halx
 have ow3 := ow.below halx
 have hc3 := hc2.keep halx
 have hb3 : Below w.heap.size w (w2.alloc (.cells #[.int .i64 n, .slice A1 cs.length n1, .slice A2 pl.length n2, .slice A3 ds.length n3, .int .i64 m] 30)) := bl_trans hb2 halx
 obtain ⟨gt, hgt⟩ : ∃ b, w2.heap.size = b := ⟨_, rfl⟩
 have hgtlt : g < gt := by omega
 have hrbgt : rb < gt := by omega
 have hSgt : Hid (∀ b ∈ S, w1.heap.size ≤ b ∧ b < gt) := fun b hb => by have := fr.2 b hb; omega
 rw [hgt] at Lt
 have hlt3 : gt < (w2.alloc (.cells #[.int .i64 n, .slice A1 cs.length n1, .slice A2 pl.length n2, .slice A3 ds.length n3, .int .i64 m] 30)).heap.size := by simp; omega
 generalize w2.alloc (.cells #[.int .i64 n, .slice A1 cs.length n1, .slice A2 pl.length n2, .slice A3 ds.length n3, .int .i64 m] 30) = W at *
 (try rw [hgt])
 clear halx lr2 ow hc2 hb2 hgt
 have t0 := (Lt 0 _ rfl).1
 have t1 := (Lt 1 _ rfl).1
 have t2 := (Lt 2 _ rfl).1
 have t3 := (Lt 3 _ rfl).1
 have t4 := (Lt 4 _ rfl).1
 have HSg : Hid (∀ b ∈ S, b ≠ g ∧ b ≠ rb) := fun b hb => by have := hSgt.out b hb; omega
 clear t0 t1 t2 t3 t4
 go_upto_region 3 with (fail)
 have hdr : Below W.heap.size W W.drew := (Below.refl _ _).drew
 refine region_state (n := 13) 3 (by kernel_rfl) rfl (by kernel_rfl) rdaBef rdaNeed [0, 2] (by kernel_rfl) rdaR (fun (_ : Nat → Bool) (W : World) => Cur V W g A c bs ∧ Loc W gt [.int .i64 n, .slice A1 cs.length n1, .slice A2 pl.length n2, .slice A3 ds.length n3, .int .i64 m] ∧ Loc W rb [.int .i64 0, .slice none 0 0, .slice none 0 0, .slice none 0 0, .int .i64 0] ∧ OwTheatre W S (.slice A1 cs.length n1) (.slice A2 pl.length n2) (.slice A3 ds.length n3) cs pl ds ∧ Below w.heap.size w W ∧ gt < W.heap.size) (fun _ => 0) (rdaP n m A1 A2 A3 cs.length pl.length ds.length n1 n2 n3 g gt) (⟨hc3.keep hdr, Lt.below hdr, lr3.below hdr, ow3.below hdr, bl_trans hb3 hdr, by have := hdr.size; omega⟩) ?_ ?_ ?_
 ·intro i k v gh gh' w1 w2 hal hp hJ hR hg
  match i, hp, hal with
  | 0, hp, _ => exact hp
  | 1, hp, _ => exact hp
  | 2, ho, hal =>
   rcases hR with rfl | hb
   ·exact absurd hal (by decide)
   ·obtain ⟨A5, n5, acts, h1, h2, h3⟩ := ho; exact ⟨A5, n5, acts, h1, own_below h2 hb, h3⟩
  | _ + 3, _, _ => trivial
 ·refine ⟨?_, ?_, ?_, trivial⟩
  all_goals
   intro a gh wr d hag hdi hcl hJ hd
   obtain ⟨x0, x1, x2, x3, x4, x5, x6, x7, x8, x9, x10, x11, x12, rfl⟩ := act13da hag.size hag.defers
   have ag4 : x4 = .pointer (some ⟨g, 0, none⟩) := hag.kept 4 (by kernel_rfl)
   have ag5 : x5 = .pointer (some ⟨gt, 0, none⟩) := hag.kept 5 (by kernel_rfl)
   clear hag
   subst ag4 ag5
  ·have t0 := (hJ.2.1 0 _ rfl).1
   have t1 := (hJ.2.1 1 _ rfl).1
   have t2 := (hJ.2.1 2 _ rfl).1
   have t3 := (hJ.2.1 3 _ rfl).1
   have t4 := (hJ.2.1 4 _ rfl).1
   go_wp2_with fail
   exact ⟨rfl, _, rfl, rfl, hJ, .inr (Below.refl _ _)⟩
  ·go_wp2_with fail
   exact ⟨rfl, _, rfl, rfl, hJ, .inr (Below.refl _ _)⟩
  ·have e1 : x11 = .pointer (some ⟨g, 0, none⟩) := hd 1 (by kernel_rfl) _ rfl
   subst e1
   obtain ⟨hJ1, hJ2, hJ3, hJ4, hJ5, hJ6⟩ := hJ
   go_wp2_with fail
   refine (l39List_any V wr g A c bs hJ1).mono ?_
   rintro e w5 ⟨va, acts, rfl, owna, hal13, hacts, hc5, hch5⟩
   obtain ⟨A5, n5, rfl, _, _⟩ := (RdS.of_own owna).form
   have hz5 := hch5.size
   go_wp2_with fail
   exact ⟨rfl, _, rfl, ⟨A5, n5, acts, rfl, own_mono owna (by omega), hal13, hacts⟩, ⟨hc5, hJ2.chg hch5 (by simp; omega), hJ3.chg hch5 (by simp; omega), hJ4.chg hch5 (fun b hb hb' => by have := (HSg.out b hb); simp at hb'; omega), Below.chg hJ5 hch5 hJ5.size (by simp; omega), by omega⟩, .inl rfl⟩
 ·intro a gh wr d hag hall hJ hd
  obtain ⟨x0, x1, x2, x3, x4, x5, x6, x7, x8, x9, x10, x11, x12, rfl⟩ := act13da hag.size hag.defers
  have ag2 : x2 = .pointer (some ⟨rb, 0, none⟩) := hag.kept 2 (by kernel_rfl)
  have ag4 : x4 = .pointer (some ⟨g, 0, none⟩) := hag.kept 4 (by kernel_rfl)
  have ag5 : x5 = .pointer (some ⟨gt, 0, none⟩) := hag.kept 5 (by kernel_rfl)
  clear hag
  subst ag2 ag4 ag5
  have e0 : x10 = .agg #[.int .i64 n, .slice A1 cs.length n1, .slice A2 pl.length n2, .slice A3 ds.length n3, .int .i64 m] := hd 0 (by kernel_rfl) _ rfl
  obtain ⟨A5, n5, acts, e2, hra, h13, hacts⟩ : ∃ (A5 : Option Addr) (n5 : Nat) (acts : List RAct), x12 = .slice A5 acts.length n5 ∧ wr.ownsRow gt 49 3 (.slice A5 acts.length n5) acts.length (acts.flatMap cAct) ∧ acts.length ≤ 13 ∧ ∀ a ∈ acts, actB a.1 a.2.1 a.2.2 = true := hd 2 (by kernel_rfl) _ rfl
  subst e0 e2
  obtain ⟨hJ1, hJ2, hJ3, hJ4, hJ5, hJ6⟩ := hJ
  have HACT := Lib.hid hacts
  have HRA := Lib.hid hra
  clear hd hall hacts hra
  have r0 := (hJ3 0 _ rfl).1
  have r1 := (hJ3 1 _ rfl).1
  have r2 := (hJ3 2 _ rfl).1
  have r3 := (hJ3 3 _ rfl).1
  have r4 := (hJ3 4 _ rfl).1
  have s0 := (hJ3 0 _ rfl).2
  have s1 := (hJ3 1 _ rfl).2
  have s2 := (hJ3 2 _ rfl).2
  have s3 := (hJ3 3 _ rfl).2
  have s4 := (hJ3 4 _ rfl).2
  change wpList _ _ _ [_, _] _ _
  go_wp2_with fail
  have hch9 : Chg [rb] wr (((((wr.setCell ⟨rb, 0, none⟩ (.int .i64 n)).setCell ⟨rb, 1, none⟩ (.slice A1 cs.length n1)).setCell ⟨rb, 2, none⟩ (.slice A2 pl.length n2)).setCell ⟨rb, 3, none⟩ (.slice A3 ds.length n3)).setCell ⟨rb, 4, none⟩ (.int .i64 m)) := by repeat' (with_reducible first | exact Chg.refl _ _ | refine qC ?_)
  exact bodyPost_ret (v := .tuple #[.agg #[.int .i64 n, .slice A1 cs.length n1, .slice A2 pl.length n2, .slice A3 ds.length n3, .int .i64 m], .slice A5 acts.length n5]) (by simp [results, Tryz.results5, go_sem, *]) rfl ⟨n, m, cs, pl, ds, _, _, _, _, acts, rfl, (hJ4.chg hch9 (fun b hb hb' => by have := HSg.out b hb; simp at hb'; omega)).rd, RdS.of_own (own_chg HRA.out hch9 (fun b hb hb' => by have := (HRA.out.lt b (by simpa using hb)).1; simp at hb'; omega)), HT.out, h13, HACT.out, Below.chg hJ5 hch9 hJ5.size (by simp; omega)⟩
open Go.RowKit
set_option maxHeartbeats 2000000 in
set_option maxRecDepth 100000 in
theorem l01Big_any (w0 w : World) (g : Nat) (A : Option Addr) (c : Nat) (bs : List Int) (hcur : Cur w0 w g A c bs) :
  Calls Tryz.prog 14 #[.pointer (some ⟨g, 0, none⟩), .int .i64 10000] w (DrawPost 10000 w0 w g A c bs) := by
 go_enter Tryz.func14, Tryz.ntmps14
 go_wp2_with fail
 refine (l01Byte_any w0 w g A c bs hcur).mono ?_
 rintro e w1 ⟨r1, rfl, ⟨h10, h11⟩, hc1, hch1⟩
 go_wp2_with fail
 refine (l01Byte_any w0 w1 g A c bs hc1).mono ?_
 rintro e w2 ⟨r2, rfl, ⟨h20, h21⟩, hc2, hch2⟩
 go_wp2_with fail
 refine (l01Byte_any w0 w2 g A c bs hc2).mono ?_
 rintro e w3 ⟨r3, rfl, ⟨h30, h31⟩, hc3, hch3⟩
 go_wp2_with fail
 refine (l01Byte_any w0 w3 g A c bs hc3).mono ?_
 rintro e w4 ⟨r4, rfl, ⟨h40, h41⟩, hc4, hch4⟩
 have hch := ((hch1.trans hch2).trans hch3).trans hch4
 clear hch1 hch2 hch3 hch4 hc1 hc2 hc3 hcur
 go_wp2_with fail
 go_ret
 exact ⟨_, rfl, ⟨by first | exact Int.emod_nonneg _ (by omega) | omega, by first | exact Int.emod_lt_of_pos _ (by omega) | omega⟩, hc4, hch⟩
set_option maxHeartbeats 4000000 in
set_option maxRecDepth 100000 in
theorem drawPlaces_any (A : Option Addr) (c : Nat) (bs : List Int) (w : World) (h : RdL cU8 1 w (.slice A bs.length c) bs) (hby : ∀ x ∈ bs, 0 ≤ x ∧ x ≤ 255) (hlen : bs.length ≤ 1048576) :
  Calls Tryz.prog 6 #[.slice A bs.length c] w fun e w' => ∃ v l, e = .returned v ∧ RdL cInt 1 w' v l ∧ l.length = 12 ∧ (∀ x ∈ l, 0 ≤ x ∧ x < 10000) ∧ Below w.heap.size w w' := by
 obtain ⟨i0, hi0, hz0, hz1, hz2⟩ := info_parts infoInt
 go_enter Tryz.func6, Tryz.ntmps6
 go_wp2_with fail
 refine (l01New_any A c bs w h hby hlen).mono ?_
 rintro e w1 ⟨g, rfl, hc1⟩
 have hgw := hc1.base
 have hglt := hc1.lt
 have hw0 := hc1.below.size
 have hown0 := World.ownsRow_made (size := 1) (e := 3) w1 #[] 0 (Nat.le_refl _) (by simp [maxLen]) rfl
 have hc0 := hc1.keep ((Below.refl _ _).alloc (Nat.le_refl _) (.cells #[] 3))
 have hch0 := (Chg.refl [g] w1).alloc (.cells #[] 3)
 have hb1 := hc1.below
 clear h hby hc1
 go_wp2_with fail
 go_loopw [4, 5] (fun q i wr => ∃ (k : Nat) (l : List Int), k ≤ 12 ∧ i = .int .i64 k ∧ Hid (l.length = k) ∧ Hid (∀ x ∈ l, 0 ≤ x ∧ x < 10000) ∧ wr.ownsRow w1.heap.size 3 1 q l.length (l.flatMap cInt) ∧ Cur w wr g A c bs ∧ Chg [g] w1 wr) (fun _ i _ => 12 - (intOf i).toNat)
 case atStart => exact ⟨0, [], Nat.zero_le _, rfl, rfl, by simp [Hid], hown0, hc0, hch0⟩
 case round =>
  obtain ⟨k, l, hk, rfl, hll, hval, hown, hc, hch⟩ := hrel
  clear hown0 hc0 hch0
  have hzw := hch.size
  obtain ⟨Aq, cq, rfl, _, _⟩ := (RdS.of_own hown).form
  by_cases hlt : k < 12
  ·have hl12 : l.length ≤ 12 := by have := hll.out; omega
   go_wp2_with fail
   refine (l01Big_any w wr g A c bs hc).mono ?_
   rintro e w3 ⟨r, rfl, hr, hc3, hch3⟩
   have hown3 := own_draw hown hch3 hglt
   have hchw3 := hch.trans hch3
   have hz3 := hchw3.size
   clear hown hc hch hch3
   go_wp2_with (at_builtin; go_must (refine wpList_appendR _ rfl (.tmp 13) (.tmp 16) _ rfl w1.heap.size 3 i0 _ 1 8 Tryz.underlying28 hi0 hz0 hz1 hz2 rfl (by omega) _ l.length (l.flatMap cInt) rfl (hown3.alloc _) _ 1 [.int .i64 r] rfl (rdS_new w3 #[.int .i64 r] _ 1 1 rfl (by simp [maxLen])) (by simp [Value.oneCell']) (by simp [maxLen]; omega) (by omega) (by simp; omega) ?_); intro v9 w9 hown9 hgr9)
   have hch9 := chg_of_own (hchw3.alloc (.cells #[.int .i64 r] 3)) (hown3.alloc _) hgr9
   have hc9 := cur_own (hc3.keep ((Below.refl _ _).alloc (Nat.le_refl _) (.cells #[.int .i64 r] 3))) (hown3.alloc _) hgr9 hglt hw0
   go_wp2_with fail
   go_roundw
   case rel => exact ⟨k + 1, l ++ [r], by omega, by go_num, by show _ = _; rw [List.length_append, hll.out]; rfl, fun x hx => by rcases List.mem_append.1 hx with hx | hx; exact hval.out x hx; rw [List.mem_singleton] at hx; subst hx; exact hr, by rw [List.length_append, List.flatMap_append]; exact hown9, hc9, hch9⟩
   case measure => simp [intOf]; omega
  ·obtain rfl : k = 12 := by omega
   go_wp2_with fail
   go_ret
   exact ⟨_, l, rfl, RdS.of_own hown, hll.out, hval.out, hc.below⟩
end Go.Proofs.YteidpejjjphecaaGreatDoor
