/- Unwinding, of the reference. Written by a program (gen_z3.py). -/
import Derived.Test.YtjbhlbcjljdjmaaZ4
namespace Go.Proofs.Ytjbhlbcjljdjmaa
open Go.RowKit
theorem act82sa {a : Act} (h : a.tmps.size = 82) (hd : a.defers = []) : ∃ x0 x1 x2 x3 x4 x5 x6 x7 x8 x9 x10 x11 x12 x13 x14 x15 x16 x17 x18 x19 x20 x21 x22 x23 x24 x25 x26 x27 x28 x29 x30 x31 x32 x33 x34 x35 x36 x37 x38 x39 x40 x41 x42 x43 x44 x45 x46 x47 x48 x49 x50 x51 x52 x53 x54 x55 x56 x57 x58 x59 x60 x61 x62 x63 x64 x65 x66 x67 x68 x69 x70 x71 x72 x73 x74 x75 x76 x77 x78 x79 x80 x81 : Value, a = ⟨#[x0, x1, x2, x3, x4, x5, x6, x7, x8, x9, x10, x11, x12, x13, x14, x15, x16, x17, x18, x19, x20, x21, x22, x23, x24, x25, x26, x27, x28, x29, x30, x31, x32, x33, x34, x35, x36, x37, x38, x39, x40, x41, x42, x43, x44, x45, x46, x47, x48, x49, x50, x51, x52, x53, x54, x55, x56, x57, x58, x59, x60, x61, x62, x63, x64, x65, x66, x67, x68, x69, x70, x71, x72, x73, x74, x75, x76, x77, x78, x79, x80, x81], []⟩ := by
  obtain ⟨⟨l⟩, d⟩ := a
  subst hd
  match l, h with
  | x0 :: x1 :: x2 :: x3 :: x4 :: x5 :: x6 :: x7 :: x8 :: x9 :: x10 :: x11 :: x12 :: x13 :: x14 :: x15 :: x16 :: x17 :: x18 :: x19 :: x20 :: x21 :: x22 :: x23 :: x24 :: x25 :: x26 :: x27 :: x28 :: x29 :: x30 :: x31 :: x32 :: x33 :: x34 :: x35 :: x36 :: x37 :: x38 :: x39 :: x40 :: x41 :: x42 :: x43 :: x44 :: x45 :: x46 :: x47 :: x48 :: x49 :: x50 :: x51 :: x52 :: x53 :: x54 :: x55 :: x56 :: x57 :: x58 :: x59 :: x60 :: x61 :: x62 :: x63 :: x64 :: x65 :: x66 :: x67 :: x68 :: x69 :: x70 :: x71 :: x72 :: x73 :: x74 :: x75 :: x76 :: x77 :: x78 :: x79 :: x80 :: x81 :: [], _ => exact ⟨x0, x1, x2, x3, x4, x5, x6, x7, x8, x9, x10, x11, x12, x13, x14, x15, x16, x17, x18, x19, x20, x21, x22, x23, x24, x25, x26, x27, x28, x29, x30, x31, x32, x33, x34, x35, x36, x37, x38, x39, x40, x41, x42, x43, x44, x45, x46, x47, x48, x49, x50, x51, x52, x53, x54, x55, x56, x57, x58, x59, x60, x61, x62, x63, x64, x65, x66, x67, x68, x69, x70, x71, x72, x73, x74, x75, x76, x77, x78, x79, x80, x81, rfl⟩
def psa (B m pl cp go k p q : Nat) (g cg n : Nat) (t : Int) (f : Bool) (xs : List Value) (i : Nat) (v : Value) (_ : Nat → Nat) (w : World) : Prop :=
  match i with
  | 0 => v = .int .i64 m
  | 1 => v = .slice (some ⟨go, 0, none⟩) pl cp
  | 2 => v = .int .i64 k
  | 3 => v = .pointer (some ⟨go, k, none⟩)
  | 4 => v = .slice (some ⟨g, 0, none⟩) 2 cg
  | 5 => v = .pointer (some ⟨g, 0, none⟩)
  | 6 => v = .int .i64 p
  | 7 => v = .slice (some ⟨go, 0, none⟩) pl cp
  | 8 => v = .int .i64 k
  | 9 => v = .pointer (some ⟨go, k, none⟩)
  | 10 => v = .slice (some ⟨g, 0, none⟩) 2 cg
  | 11 => v = .pointer (some ⟨g, 1, none⟩)
  | 12 => v = .int .i64 q
  | 13 => v = .int .i64 t
  | 14 => v = .bool f
  | 15 => ∃ A c, v = .tuple #[.slice A n c, .bool true] ∧ w.ownsRow B 115 2 (.slice A n c) n xs
  | 16 => ∃ A c, v = .tuple #[.slice A n c, .bool true] ∧ w.ownsRow B 115 2 (.slice A n c) n xs
  | 17 => ∃ A c, v = .slice A n c ∧ w.ownsRow B 115 2 (.slice A n c) n xs
  | 18 => v = .bool true
  | 19 => ∃ A c, v = .slice A n c ∧ w.ownsRow B 115 2 (.slice A n c) n xs
  | _ => True
set_option maxHeartbeats 8000000 in
set_option maxRecDepth 100000 in
theorem specUnwindAll_any (n : Int) (v : Value) (cs : List RCross) (w : World) (h : RdL cCross 2 w v cs) :
    Calls Try.prog 69 #[.int .i64 n, v] w (RetUnw (unwB n cs) (unwV n cs) w) := by
  have h0 := h
  obtain ⟨A, c, rfl, h1, h2⟩ := h.form
  obtain ⟨iX, hiX, hzX0, hzX1, hzX2⟩ := info_parts infoCross
  have hownA := World.ownsRow_made (size := 2) (e := 115) w #[] 0 (Nat.le_refl _) (by simp [maxLen]) rfl
  have hbA : Below w.heap.size w (w.alloc (.cells #[] 115)) := (Below.refl _ _).alloc (Nat.le_refl _) _
  have hrdA := h0.below hbA
  go_enter Try.func69, Try.ntmps69
  go_wp2_with fail
  refine twoB (specCrossesOk_any n _ cs _ hrdA) (fun w1 hq hb1 => ?_) (fun w1 hq hb1 => ?_)
  · obtain ⟨hn, hlen, hcs⟩ := crosses_len hq.out
    obtain ⟨m, rfl⟩ := Int.eq_ofNat_of_zero_le (show 0 ≤ n by omega)
    have hm : 1 ≤ m ∧ m ≤ 7 := by omega
    have hrd1 := hrdA.below hb1
    have HSQ := Lib.hid (twL_sq hcs)
    have HBD := Lib.hid (twL_40 hcs (by omega))
    have HO := Lib.hid (IsOrd.order hcs)
    have hown1 := own_below hownA hb1
    have hb01 : Below w.heap.size w w1 := bl_trans hbA hb1
    have hC := specOrderAfter_any (m : Int) _ cs w1 hrd1
    rw [ordR_t hq.out] at hC
    clear hcs hn hrdA hownA hbA hb1
    go_wp2_with fail
    refine hC.mono ?_
    rintro e w2 ⟨v2, rfl, own2, hb2⟩
    have hr2 : RdL cInt 1 w2 v2 (orderF m cs) := RdS.of_own own2
    obtain ⟨A2, c2, rfl, _, _⟩ := hr2.form
    have hown2 := own_below hown1 hb2
    have hrd2 := hrd1.below hb2
    have hb02 : Below w.heap.size w w2 := bl_trans hb01 hb2
    have hCI := specCountInv_any _ _ w2 hr2 (HO.out.okB hm)
    have HI : Hid (inv (orderF m cs) = 0 ↔ orderF m cs = upN m) := HO.out.inv_zero
    obtain ⟨ol, hol⟩ : ∃ ol, (orderF m cs).length = ol := ⟨_, rfl⟩
    rw [hol] at hCI hr2
    rw [hol]
    obtain ⟨I, hI⟩ : ∃ I, inv (orderF m cs) = I := ⟨_, rfl⟩
    rw [hI] at hCI HI
    clear own2 hb2 hC hown1 hrd1 hb01 hol hI
    go_wp2_with fail
    refine hCI.mono ?_
    rintro e w3 ⟨rfl, hb3⟩
    have hown3 := own_below hown2 hb3
    have hrd3 := hrd2.below hb3
    have hb03 : Below w.heap.size w w3 := bl_trans hb02 hb3
    clear hCI hr2 hown2 hrd2 hb02 hb3
    by_cases hI0 : I = 0
    · have HU := Lib.hid (unwB_t hq.out (HI.out.1 hI0))
      subst hI0
      clear HI
      go_wp2_with fail
      refine (specWound_any m _ cs _ hrd3 hq.out).mono ?_
      rintro e w4 ⟨vp, rfl, ⟨Sp, hp, hfp, _⟩, hb4⟩
      have hz4 := hb4.size
      obtain ⟨Ap, cp, rfl, _, _⟩ := hp.rd.form
      have hown4 := own_below hown3 hb4
      have hb04 : Below w.heap.size w w4 := bl_trans hb03 hb4
      have hap4 : Hid (∀ b ∈ Sp, b ∉ (Value.slice (some ⟨w.heap.size, 0, none⟩) 0 0).ownBlock.toList) := fun b hb hb' => by
        have := (hfp.2 b hb).1
        have h2 := (own_lt hown3 w.heap.size (by simp [Value.ownBlock])).2
        simp [Value.ownBlock] at hb'
        omega
      have hSp : ∀ b ∈ Sp, b < w4.heap.size := fun b hb => (hfp.2 b hb).2
      have hSn := hfp.1
      have HPm : Hid (∀ k (hk : k < (woundL m cs).length), ∃ i j : Nat, (woundL m cs)[k] = [(i : Int), (j : Int)] ∧ i < j ∧ j < m) := fun k hk => woundPair hk
      have HPl : Hid (∀ k, (unwTo (twL m cs) ((woundL m cs).take k)).length ≤ 49 * 400) := fun k => by
        have e1 := unwTo_len (ll := twL m cs) (ps := (woundL m cs).take k) hm.2 (fun r hr => wound_mem r (List.mem_of_mem_take hr)) HBD.out
        have h2 := woundTo_len (twL m cs) m m
        have h3 : m * m ≤ 7 * 7 := Nat.mul_le_mul (by omega) (by omega)
        have h4 : ((woundL m cs).take k).length ≤ 49 := by rw [List.length_take]; unfold woundL; omega
        have h5 := Nat.mul_le_mul_right 400 h4
        omega
      have HUL : Hid (unwindL m cs = unwTo (twL m cs) (woundL m cs)) := rfl
      have hlp : (woundL m cs).length ≤ 49 := by
        have h2 := woundTo_len (twL m cs) m m
        have h3 : m * m ≤ 7 * 7 := Nat.mul_le_mul (by omega) (by omega)
        unfold woundL; omega
      have HTO : Hid (∀ (i j : Nat) (W : World) (v : Value), RdL cCross 2 W v cs → i < m → j < m → Calls Try.prog 119 #[.int .i64 m, v, .int .i64 i, .int .i64 j] W fun e w' => e = .returned (.int .i64 (cellT (twL m cs) i j)) ∧ Below W.heap.size W w') := fun i j W v hr hi hj => specTwistOf_any m i j v cs W hr hq.out hi hj
      clear hown3 hfp hb4 hrd3 hb03
      generalize woundL m cs = ps at *
      generalize twL m cs = tw at *
      go_wp2_with fail
      go_loopw [6, 8, 9, 10, 11, 12] (fun p i _ _ _ _ wr => ∃ k : Nat, k ≤ ps.length ∧ i = .int .i64 k ∧ wr.ownsRow w.heap.size 115 2 p (unwTo tw (ps.take k)).length ((unwTo tw (ps.take k)).flatMap cCross) ∧ OwRows 28 3 wr Sp (.slice Ap ps.length cp) ps ∧ Hid (∀ b ∈ Sp, b ∉ p.ownBlock.toList) ∧ w4.heap.size ≤ wr.heap.size ∧ Below w.heap.size w wr) (fun _ i _ _ _ _ _ => ps.length - (intOf i).toNat)
      case atStart => exact ⟨0, Nat.zero_le _, rfl, hown4, hp, hap4, Nat.le_refl _, hb04⟩
      case round =>
        obtain ⟨k, hk, rfl, hown, hp, hap, hzw, hb⟩ := hrel
        clear hown4 hap4 hb04
        have hz := hb.size
        obtain ⟨Ao, co, rfl, _, _⟩ := (RdS.of_own hown).form
        by_cases hlt : k < ps.length
        · obtain ⟨i, j, hpk, hij, hjm⟩ := HPm.out k hlt
          have HSN := Lib.hid (unwTo_snoc tw ps hlt)
          have HPK := Lib.hid hpk
          obtain ⟨go, cop, g, cg, e, c1, c2, c3, hgS⟩ := hp.pairAt hSn hlt hpk
          injection e with e1 e2 e3
          subst e1 e3
          clear e2 hpk
          have HTT : Hid (unwR tw ps[k] = manyL (turnL i j (decide (cellT tw i j < 0))) (timesT (cellT tw i j))) := by show _ = _; rw [HPK.out, unwR_pair]
          rw [HTT.out] at HSN
          clear HTT
          have htb := HBD.out i j
          have hTO := HTO.out i j wr.drew _ (h0.below hb.drew) (by omega) hjm
          obtain ⟨t, ht⟩ : ∃ t, cellT tw i j = t := ⟨_, rfl⟩
          rw [ht] at hTO htb HSN
          have hl0 := HPl.out k
          obtain ⟨dn1, hd1⟩ : ∃ dn1, unwTo tw (ps.take (k + 1)) = dn1 := ⟨_, rfl⟩
          rw [hd1] at HSN
          have HD1 := Lib.hid hd1
          clear ht hd1
          generalize unwTo tw (ps.take k) = d0 at *
          go_upto_region 8 with (fail)
          go_still_tail 14, (by kernel_rfl)
          change wpList _ _ _ _ _ (World.drew wr)
          go_wp2_with fail
          refine hTO.mono ?_
          rintro e wq ⟨rfl, hb5⟩
          have hb5' : Below wr.heap.size wr wq := bl_trans ((Below.refl _ _).drew) hb5
          have hown5 := own_below hown hb5'
          have hp5 := hp.below hb5'
          have hb05 : Below w.heap.size w wq := bl_trans hb hb5'
          have hz5 := hb5'.size
          have c1' := carry hb5' c1
          have c2' := carry hb5' c2
          have c3' := carry hb5' c3
          clear c1 c2 c3 hown hp hb hb5 hb5' hTO
          go_upto_region 9 with (fail)
          have hTL : (turnL i j (decide (t < 0))).length ≤ 16 := by have := turnL_len i j (decide (t < 0)); omega
          have HTu : Hid (∀ w, Calls Try.prog 120 #[.int .i64 m, .int .i64 i, .int .i64 j, .bool (decide (t < 0))] w fun e w' => ∃ v', e = .returned (.tuple #[v', .bool true]) ∧ w'.ownsRow w.heap.size 115 2 v' (turnL i j (decide (t < 0))).length ((turnL i j (decide (t < 0))).flatMap cCross) ∧ Below w.heap.size w w') := fun w => specTurn_any m i j (decide (t < 0)) w hij hjm hm.2
          have HML : Hid (∀ a, a ≤ 20 → (manyL (turnL i j (decide (t < 0))) a).length ≤ 400) := fun a ha => many_len hjm hm.2 ha
          generalize turnL i j (decide (t < 0)) = TL at *
          refine region_made (n := 82) 20 (by kernel_rfl) rfl (by kernel_rfl) (fun w' => Below wq.heap.size wq w') (fun _ => 0) (psa wq.heap.size m ps.length cp go k i j g cg TL.length t (decide (t < 0)) (TL.flatMap cCross)) (Below.refl _ _).drew ?_ ?_ ?_
          · intro i v gh gh' w1 w2 hp hJ hb' hg
            match i, hp with
            | 0, hp => exact hp
            | 1, hp => exact hp
            | 2, hp => exact hp
            | 3, hp => exact hp
            | 4, hp => exact hp
            | 5, hp => exact hp
            | 6, hp => exact hp
            | 7, hp => exact hp
            | 8, hp => exact hp
            | 9, hp => exact hp
            | 10, hp => exact hp
            | 11, hp => exact hp
            | 12, hp => exact hp
            | 13, hp => exact hp
            | 14, hp => exact hp
            | 15, ⟨A', c', hv, ho⟩ => exact ⟨A', c', hv, own_below ho hb'⟩
            | 16, ⟨A', c', hv, ho⟩ => exact ⟨A', c', hv, own_below ho hb'⟩
            | 17, ⟨A', c', hv, ho⟩ => exact ⟨A', c', hv, own_below ho hb'⟩
            | 18, hp => exact hp
            | 19, ⟨A', c', hv, ho⟩ => exact ⟨A', c', hv, own_below ho hb'⟩
            | _ + 20, _ => trivial
          · refine ⟨?_, ?_, ?_, ?_, ?_, ?_, ?_, ?_, ?_, ?_, ?_, ?_, ?_, ?_, ?_, ?_, ?_, ?_, ?_, ?_, trivial⟩
            all_goals
              intro a gh w5 hag hJ hd
              have ag0 : a.tmps.getD 0 undef = .int .i64 m := hag.kept 0 (by kernel_rfl)
              have ag7 : a.tmps.getD 7 undef = .slice (some ⟨go, 0, none⟩) ps.length cp := hag.kept 7 (by kernel_rfl)
              have ag8 : a.tmps.getD 8 undef = .int .i64 k := hag.kept 8 (by kernel_rfl)
              have ag9 : a.tmps.getD 9 undef = .int .i64 t := hag.kept 9 (by kernel_rfl)
              clear hag
            · go_wp2_with fail
              exact ⟨rfl, _, rfl, rfl, hJ, Below.refl _ _⟩
            · go_wp2_with fail
              exact ⟨rfl, _, rfl, rfl, hJ, Below.refl _ _⟩
            · go_wp2_with fail
              exact ⟨rfl, _, rfl, rfl, hJ, Below.refl _ _⟩
            · have e0 : a.tmps.getD 52 undef = .slice (some ⟨go, 0, none⟩) ps.length cp := hd 1 (by kernel_rfl) _ rfl
              have e1 : a.tmps.getD 53 undef = .int .i64 k := hd 2 (by kernel_rfl) _ rfl
              go_wp2_with fail
              exact ⟨rfl, _, rfl, rfl, hJ, Below.refl _ _⟩
            · have e0 : a.tmps.getD 54 undef = .pointer (some ⟨go, k, none⟩) := hd 3 (by kernel_rfl) _ rfl
              have k0 := carry hJ c1'
              go_wp2_with fail
              exact ⟨rfl, _, rfl, rfl, hJ, Below.refl _ _⟩
            · have e0 : a.tmps.getD 55 undef = .slice (some ⟨g, 0, none⟩) 2 cg := hd 4 (by kernel_rfl) _ rfl
              go_wp2_with fail
              exact ⟨rfl, _, rfl, rfl, hJ, Below.refl _ _⟩
            · have e0 : a.tmps.getD 56 undef = .pointer (some ⟨g, 0, none⟩) := hd 5 (by kernel_rfl) _ rfl
              have k0 := carry hJ c2'
              go_wp2_with fail
              exact ⟨rfl, _, rfl, rfl, hJ, Below.refl _ _⟩
            · go_wp2_with fail
              exact ⟨rfl, _, rfl, rfl, hJ, Below.refl _ _⟩
            · go_wp2_with fail
              exact ⟨rfl, _, rfl, rfl, hJ, Below.refl _ _⟩
            · have e0 : a.tmps.getD 58 undef = .slice (some ⟨go, 0, none⟩) ps.length cp := hd 7 (by kernel_rfl) _ rfl
              have e1 : a.tmps.getD 59 undef = .int .i64 k := hd 8 (by kernel_rfl) _ rfl
              go_wp2_with fail
              exact ⟨rfl, _, rfl, rfl, hJ, Below.refl _ _⟩
            · have e0 : a.tmps.getD 60 undef = .pointer (some ⟨go, k, none⟩) := hd 9 (by kernel_rfl) _ rfl
              have k0 := carry hJ c1'
              go_wp2_with fail
              exact ⟨rfl, _, rfl, rfl, hJ, Below.refl _ _⟩
            · have e0 : a.tmps.getD 61 undef = .slice (some ⟨g, 0, none⟩) 2 cg := hd 10 (by kernel_rfl) _ rfl
              go_wp2_with fail
              exact ⟨rfl, _, rfl, rfl, hJ, Below.refl _ _⟩
            · have e0 : a.tmps.getD 62 undef = .pointer (some ⟨g, 1, none⟩) := hd 11 (by kernel_rfl) _ rfl
              have k0 := carry hJ c3'
              go_wp2_with fail
              exact ⟨rfl, _, rfl, rfl, hJ, Below.refl _ _⟩
            · go_wp2_with fail
              exact ⟨rfl, _, rfl, rfl, hJ, Below.refl _ _⟩
            · have e0 : a.tmps.getD 64 undef = .int .i64 t := hd 13 (by kernel_rfl) _ rfl
              go_wp2_with fail
              exact ⟨rfl, _, rfl, rfl, hJ, Below.refl _ _⟩
            · have e0 : a.tmps.getD 51 undef = .int .i64 m := hd 0 (by kernel_rfl) _ rfl
              have e1 : a.tmps.getD 57 undef = .int .i64 i := hd 6 (by kernel_rfl) _ rfl
              have e2 : a.tmps.getD 63 undef = .int .i64 j := hd 12 (by kernel_rfl) _ rfl
              have e3 : a.tmps.getD 65 undef = .bool (decide (t < 0)) := hd 14 (by kernel_rfl) _ rfl
              go_wp2_with fail
              refine (HTu.out _).mono ?_
              rintro e w6 ⟨v5, rfl, own5, hb5⟩
              obtain ⟨A5, c5, rfl, _, _⟩ := (RdS.of_own own5).form
              go_wp2_with fail
              exact ⟨rfl, _, rfl, ⟨A5, c5, rfl, own_mono own5 hJ.size⟩, bl_trans hJ hb5, hb5⟩
            · obtain ⟨A', c', e0, ho⟩ : ∃ A c, a.tmps.getD 66 undef = .tuple #[.slice A TL.length c, .bool true] ∧ w5.ownsRow wq.heap.size 115 2 (.slice A TL.length c) TL.length (TL.flatMap cCross) := hd 15 (by kernel_rfl) _ rfl
              go_wp2_with fail
              exact ⟨rfl, _, rfl, ⟨A', c', rfl, ho⟩, hJ, Below.refl _ _⟩
            · obtain ⟨A', c', e0, ho⟩ : ∃ A c, a.tmps.getD 50 undef = .tuple #[.slice A TL.length c, .bool true] ∧ w5.ownsRow wq.heap.size 115 2 (.slice A TL.length c) TL.length (TL.flatMap cCross) := hd 16 (by kernel_rfl) _ rfl
              go_wp2_with fail
              exact ⟨rfl, _, rfl, ⟨A', c', rfl, ho⟩, hJ, Below.refl _ _⟩
            · obtain ⟨A', c', e0, ho⟩ : ∃ A c, a.tmps.getD 50 undef = .tuple #[.slice A TL.length c, .bool true] ∧ w5.ownsRow wq.heap.size 115 2 (.slice A TL.length c) TL.length (TL.flatMap cCross) := hd 16 (by kernel_rfl) _ rfl
              go_wp2_with fail
              exact ⟨rfl, _, rfl, rfl, hJ, Below.refl _ _⟩
            · obtain ⟨A', c', e0, ho⟩ : ∃ A c, a.tmps.getD 67 undef = .slice A TL.length c ∧ w5.ownsRow wq.heap.size 115 2 (.slice A TL.length c) TL.length (TL.flatMap cCross) := hd 17 (by kernel_rfl) _ rfl
              go_wp2_with fail
              exact ⟨rfl, _, rfl, ⟨A', c', rfl, ho⟩, hJ, Below.refl _ _⟩
          · intro a gh w5 hag hJ hd
            obtain ⟨x0, x1, x2, x3, x4, x5, x6, x7, x8, x9, x10, x11, x12, x13, x14, x15, x16, x17, x18, x19, x20, x21, x22, x23, x24, x25, x26, x27, x28, x29, x30, x31, x32, x33, x34, x35, x36, x37, x38, x39, x40, x41, x42, x43, x44, x45, x46, x47, x48, x49, x50, x51, x52, x53, x54, x55, x56, x57, x58, x59, x60, x61, x62, x63, x64, x65, x66, x67, x68, x69, x70, x71, x72, x73, x74, x75, x76, x77, x78, x79, x80, x81, rfl⟩ := act82sa hag.size hag.defers
            have ag0 : x0 = .int .i64 m := hag.kept 0 (by kernel_rfl)
            have ag1 : x1 = .slice A cs.length c := hag.kept 1 (by kernel_rfl)
            have ag2 : x2 = undef := hag.kept 2 (by kernel_rfl)
            have ag3 : x3 = undef := hag.kept 3 (by kernel_rfl)
            have ag4 : x4 = .slice none 0 0 := hag.kept 4 (by kernel_rfl)
            have ag5 : x5 = .bool false := hag.kept 5 (by kernel_rfl)
            have ag6 : x6 = .slice Ao d0.length co := hag.kept 6 (by kernel_rfl)
            have ag7 : x7 = .slice (some ⟨go, 0, none⟩) ps.length cp := hag.kept 7 (by kernel_rfl)
            have ag8 : x8 = .int .i64 k := hag.kept 8 (by kernel_rfl)
            have ag9 : x9 = .int .i64 t := hag.kept 9 (by kernel_rfl)
            have ag13 : x13 = .slice (some ⟨w.heap.size, 0, none⟩) 0 0 := hag.kept 13 (by kernel_rfl)
            have ag14 : x14 = .int .i64 m := hag.kept 14 (by kernel_rfl)
            have ag15 : x15 = .slice A cs.length c := hag.kept 15 (by kernel_rfl)
            have ag16 : x16 = .bool true := hag.kept 16 (by kernel_rfl)
            have ag17 : x17 = .bool false := hag.kept 17 (by kernel_rfl)
            have ag18 : x18 = .bool false := hag.kept 18 (by kernel_rfl)
            have ag19 : x19 = .int .i64 m := hag.kept 19 (by kernel_rfl)
            have ag20 : x20 = .slice A cs.length c := hag.kept 20 (by kernel_rfl)
            have ag21 : x21 = .slice A2 ol c2 := hag.kept 21 (by kernel_rfl)
            have ag22 : x22 = .int .i64 0 := hag.kept 22 (by kernel_rfl)
            have ag23 : x23 = .bool false := hag.kept 23 (by kernel_rfl)
            have ag24 : x24 = .bool false := hag.kept 24 (by kernel_rfl)
            have ag25 : x25 = undef := hag.kept 25 (by kernel_rfl)
            have ag26 : x26 = .int .i64 m := hag.kept 26 (by kernel_rfl)
            have ag27 : x27 = .slice A cs.length c := hag.kept 27 (by kernel_rfl)
            have ag28 : x28 = .slice (some ⟨go, 0, none⟩) ps.length cp := hag.kept 28 (by kernel_rfl)
            have ag81 : x81 = undef := hag.kept 81 (by kernel_rfl)
            clear hag
            subst ag0 ag1 ag2 ag3 ag4 ag5 ag6 ag7 ag8 ag9 ag13 ag14 ag15 ag16 ag17 ag18 ag19 ag20 ag21 ag22 ag23 ag24 ag25 ag26 ag27 ag28 ag81
            obtain ⟨A5, c5, e0, own5⟩ : ∃ A c, x10 = .slice A TL.length c ∧ w5.ownsRow wq.heap.size 115 2 (.slice A TL.length c) TL.length (TL.flatMap cCross) := hd 19 (by kernel_rfl) _ rfl
            have e2 : x68 = .bool true := hd 18 (by kernel_rfl) _ rfl
            subst e0 e2
            change wpList _ _ _ [_] _ _
            have hpw := hp5.below hJ
            have hownw := own_below hown5 hJ
            have hbw := bl_trans hb05 hJ
            have hzw2 : w4.heap.size ≤ w5.heap.size := by have := hJ.size; omega
            have hapw := Lib.hid (apart_new own5 hown5 (Nat.le_refl _))
            have ownTL := own_mono own5 (Nat.zero_le _)
            obtain ⟨N, hN⟩ : ∃ N, t.natAbs = N := ⟨_, rfl⟩
            rw [timesT, hN] at HSN
            have hcase : (t = -(N : Int) ∧ 0 < N) ∨ t = (N : Int) := by omega
            have hN40 : N ≤ 40 := by omega
            have hd00 : w5.ownsRow w.heap.size 115 2 (.slice Ao d0.length co) (d0 ++ manyL TL 0).length ((d0 ++ manyL TL 0).flatMap cCross) := by rw [show d0 ++ manyL TL 0 = d0 from List.append_nil d0]; exact hownw
            clear hJ hd own5 hown5 hp5 hb05 hN htb HBD hownw
            obtain ⟨T, hT⟩ : ∃ T, N / 2 = T := ⟨_, rfl⟩
            have hT2 : (N : Int) / 2 = (T : Int) := by omega
            rw [hT] at HSN
            have hT20 : T ≤ 20 := by omega
            have HT := Lib.hid hT
            clear hT
            have hw9 : IntKind.i64.wrap (-(N : Int)) = -(N : Int) := IntWalk.i64_in _ (by omega)
            have hw8 : IntKind.i64.wrap (N : Int) = (N : Int) := IntWalk.i64_in _ (by omega)
            have hN1 : ¬ (N : Int) < -(N : Int) := by omega
            rcases hcase with ⟨rfl, hNp⟩ | rfl
            all_goals
              (try have hN2 : -(N : Int) < (N : Int) := by omega)
              go_upto_region 11 with (fail)
              (try rw [hT2])
              clear hw8 hw9 hN1 hN40 hT2
              (try clear hN2 hNp)
              go_loopw [6, 12] (fun p b wr => ∃ a : Nat, a ≤ T ∧ b = .int .i64 ((T - a : Nat) : Int) ∧ wr.ownsRow w.heap.size 115 2 p (d0 ++ manyL TL a).length ((d0 ++ manyL TL a).flatMap cCross) ∧ OwRows 28 3 wr Sp (.slice (some ⟨go, 0, none⟩) ps.length cp) ps ∧ Hid (∀ b ∈ Sp, b ∉ p.ownBlock.toList) ∧ wr.ownsRow 0 115 2 (.slice A5 TL.length c5) TL.length (TL.flatMap cCross) ∧ Hid (Apart (.slice A5 TL.length c5) p) ∧ w4.heap.size ≤ wr.heap.size ∧ Below w.heap.size w wr) (fun _ b _ => (intOf b).toNat)
              case atStart => exact ⟨0, Nat.zero_le _, rfl, hd00, hpw, hap, ownTL, hapw, hzw2, hbw⟩
              case round =>
                obtain ⟨a, ha, rfl, hown, hp, hap, hTLo, hapT, hzw, hb⟩ := hrel
                clear hd00 hpw ownTL hapw hzw2 hbw
                have hml := HML.out a (by omega)
                have hz3 := hb.size
                obtain ⟨Ao, co, rfl, _, _⟩ := (RdS.of_own hown).form
                by_cases hlt2 : a < T
                · have HS2 : Hid (d0 ++ manyL TL (a + 1) = (d0 ++ manyL TL a) ++ TL) := by show _ = _; rw [many_snoc, List.append_assoc]
                  have hda : (d0 ++ manyL TL a).length ≤ 20000 := by rw [List.length_append]; omega
                  generalize d0 ++ manyL TL a = da at *
                  obtain ⟨r, hr⟩ : ∃ r, T - a = r + 1 := ⟨T - a - 1, by omega⟩
                  have hr2 : T - (a + 1) = r := by omega
                  rw [hr]
                  have HR := Lib.hid (And.intro hr hr2)
                  have hr0 : ((r + 1 : Nat) : Int) > 0 := by omega
                  have hw7 : IntKind.i64.wrap (((r + 1 : Nat) : Int) - 1) = (r : Int) := by rw [IntWalk.i64_in _ (by omega)]; omega
                  have hw6 : (r : Int) + 1 > 0 := by omega
                  have hw5 : IntKind.i64.wrap (r : Int) = (r : Int) := IntWalk.i64_in _ (by omega)
                  have HRb : Hid (r ≤ 20) := by show r ≤ 20; omega
                  clear hr hr2
                  go_wp2_with (at_builtin; refine wpList_appendB _ rfl (.tmp 78) (.tmp 79) _ rfl w.heap.size 115 iX _ 2 16 Try.underlying44 hiX hzX0 hzX1 hzX2 rfl (by omega) _ da.length (da.flatMap cCross) rfl hown _ TL.length (TL.flatMap cCross) rfl (RdS.of_own hTLo) (oneCell_flat cCross_one TL) (by simp [maxLen]; omega) (by omega) (by omega) ?_; intro v6 w6 own6 gr6 at6)
                  have hch := Chg.of_grown gr6
                  obtain ⟨hp6, hap6⟩ := rows_grow hp (Below.refl _ _) (fun b hb => by have := hSp b hb; omega) hap.out gr6 at6
                  have hz6 := gr6.size
                  have hb6 : Below w.heap.size w w6 := hb.trans (below_own hown gr6 (by omega))
                  have HAP := Lib.hid hap6
                  have hTL6 := Lib.hid (own_chg hTLo hch hapT.out)
                  have hapT6 := Lib.hid (apart_grow hTLo hapT.out (Nat.le_refl _) at6)
                  obtain ⟨A6, c6, rfl, _, _⟩ := (RdS.of_own own6).form
                  clear gr6 at6 hch hap6 hTLo hapT
                  go_wp2_with fail
                  go_roundw
                  case rel => exact ⟨a + 1, hlt2, (by first | exact int_eq (show (r : Int) = ((T - (a + 1) : Nat) : Int) from by rw [HR.out.2]) | exact int_eq (show wrap64 (r : Int) = ((T - (a + 1) : Nat) : Int) from by rw [HR.out.2]; exact IntWalk.wrap64_in _ (by have := HRb.out; omega))), by rw [HS2.out, List.length_append, List.flatMap_append]; exact own6, hp6, HAP.out, hTL6.out, hapT6.out, Nat.le_trans hzw hz6, hb6⟩
                  case measure => first | exact Nat.lt_succ_self r | (rw [IntWalk.wrap64_in (r : Int) (by have := HRb.out; omega)]; exact Nat.lt_succ_self r)
                · obtain rfl : a = T := by omega
                  rw [← HSN.out] at hown hap ⊢
                  rw [Nat.sub_self]
                  go_wp2_with fail
                  go_roundw
                  case rel => exact ⟨k + 1, by omega, by go_num, by rw [HD1.out]; exact hown, hp, hap, hzw, hb⟩
                  case measure => simp [intOf]; omega
        · obtain rfl : k = ps.length := by omega
          rw [List.take_length] at hown ⊢
          go_wp2_with fail
          go_ret2
          rw [HU.out.1, HU.out.2, HUL.out]
          exact ⟨_, rfl, hown, hb⟩
    · have HU := Lib.hid (unwB_f2 (m := m) (fun e => hI0 (HI.out.2 e)))
      have hI' : ((I : Int) != 0) = true := by rw [bne_iff_ne]; omega
      clear HI
      go_wp2_with fail
      go_ret2
      rw [HU.out.1, HU.out.2]
      exact ⟨_, rfl, hown3, hb03⟩
  · have HU := Lib.hid (unwB_f1 hq.out)
    have hown1 := own_below hownA hb1
    have hb01 : Below w.heap.size w w1 := bl_trans hbA hb1
    go_wp2_with fail
    go_ret2
    rw [HU.out.1, HU.out.2]
    exact ⟨_, rfl, hown1, hb01⟩
end Go.Proofs.Ytjbhlbcjljdjmaa
