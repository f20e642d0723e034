/- The pairs of crossings, the table of twists, the pairs that are wound, unwinding, of the reference. Written by a program (gen_z3.py). -/
import Derived.Test.YtjbhlbcjljdjmaaZ3
import Derived.Test.YtjbhlbcjljdjmaaY2
namespace Go.Proofs.Ytjbhlbcjljdjmaa
open Go.RowKit
/-- the two puppets of a crossing, the one in front first -/
def pairAt (o : List Int) (c : RCross) : List Int := if c.2 = true then [o.getD c.1.toNat 0, o.getD (c.1.toNat + 1) 0] else [o.getD (c.1.toNat + 1) 0, o.getD c.1.toNat 0]
def pairsTo (n : Nat) (cs : List RCross) : Nat → List (List Int)
  | 0 => []
  | k + 1 => pairsTo n cs k ++ [pairAt (orderF n (cs.take k)) (cs.getD k (0, false))]
theorem pairsTo_len (n : Nat) (cs : List RCross) (k : Nat) : (pairsTo n cs k).length = k := by
  induction k with
  | zero => rfl
  | succ k ih => rw [pairsTo, List.length_append, ih]; rfl
theorem pairsTo_at (n : Nat) (cs : List RCross) : ∀ (k i : Nat) (h : i < (pairsTo n cs k).length), (pairsTo n cs k)[i] = pairAt (orderF n (cs.take i)) (cs.getD i (0, false)) := by
  intro k
  induction k with
  | zero => intro i h; simp [pairsTo] at h
  | succ k ih =>
    intro i h
    rw [pairsTo_len] at h
    by_cases hi : i < k
    · have h2 : i < (pairsTo n cs k).length := by rw [pairsTo_len]; exact hi
      simp only [pairsTo]
      rw [List.getElem_append_left h2, ih]
    · obtain rfl : i = k := by omega
      simp only [pairsTo]
      rw [List.getElem_append_right (by rw [pairsTo_len]; exact Nat.le_refl _)]
      simp [pairsTo_len]
theorem getD_cross (cs : List RCross) {k : Nat} (h : k < cs.length) : cs.getD k (0, false) = cs[k] := by rw [List.getD_eq_getElem?_getD, List.getElem?_eq_getElem h]; rfl
set_option maxHeartbeats 8000000 in
set_option maxRecDepth 100000 in
theorem specPairsOf_any (m : Nat) (v : Value) (cs : List RCross) (w : World) (h : RdL cCross 2 w v cs) (hqc : crossesB m cs = true) :
    Calls Try.prog 138 #[.int .i64 m, v] w fun e w' => ∃ v', e = .returned v' ∧ RowsX [] w.heap.size w' v' (pairsTo m cs cs.length) ∧ Below w.heap.size w w' := by
  have h0 := h
  obtain ⟨A, c, rfl, h1, h2⟩ := h.form
  obtain ⟨hn, hlen, hcs⟩ := crosses_len hqc
  have hm : 1 ≤ m ∧ m ≤ 7 := by omega
  obtain ⟨iR, hiR, hzR0, hzR1, hzR2⟩ := info_parts infoRow
  have hxa : RowsX [] w.heap.size (w.alloc (.cells #[] 28)) (.slice (some ⟨w.heap.size, 0, none⟩) 0 0) [] := RowsX.empty (Nat.le_refl _) (fun b hb => by simp at hb)
  have hba : Below w.heap.size w (w.alloc (.cells #[] 28)) := (Below.refl _ _).alloc (Nat.le_refl _) _
  have hC := specCrossesOk_any m _ cs _ (h0.below hba)
  rw [hqc] at hC
  have Hcs := Lib.hid hcs
  clear hcs hqc hn
  go_enter Try.func138, Try.ntmps138
  go_wp2_with fail
  refine hC.mono ?_
  rintro e w1 ⟨rfl, hb1⟩
  have hx1 := hxa.below hb1
  have hb01 : Below w.heap.size w w1 := bl_trans hba hb1
  clear hC hxa hba hb1
  go_wp2_with fail
  refine (l08Start_any m w1 (by omega)).mono ?_
  rintro e w2 ⟨v2, rfl, own2, hb2⟩
  have hx2 := hx1.below hb2
  have hb02 : Below w.heap.size w w2 := bl_trans hb01 hb2
  have hq2 : w2.ownsRow 0 3 1 v2 (orderF m (cs.take 0)).length ((orderF m (cs.take 0)).flatMap cInt) := own_mono own2 (Nat.zero_le _)
  have hap2 : Hid (Apart v2 (.slice (some ⟨w.heap.size, 0, none⟩) 0 0)) := fun b hb hb' => by
    have h1 := (own_lt own2 b hb).1
    have h2 := hb01.size
    obtain ⟨S, ⟨vs, _, ho, _, rfl⟩, hf, _⟩ := hx1
    have h3 := (hf.2 b (List.mem_append_left _ hb')).2
    omega
  obtain ⟨A2, c2, rfl, _, _⟩ := (RdS.of_own own2).form
  clear own2 hb2 hx1 hb01
  have hol0 : (upN m).length = (orderF m (cs.take 0)).length := rfl
  rw [hol0]
  rw [hol0] at hq2 hap2
  clear hol0
  go_wp2_with fail
  go_loopw [5, 6, 7, 8, 9] (fun p q i _ _ wr => ∃ k : Nat, k ≤ cs.length ∧ i = .int .i64 k ∧ RowsX [] w.heap.size wr p (pairsTo m cs k) ∧ wr.ownsRow 0 3 1 q (orderF m (cs.take k)).length ((orderF m (cs.take k)).flatMap cInt) ∧ Hid (Apart q p) ∧ Below w.heap.size w wr) (fun _ _ i _ _ _ => cs.length - (intOf i).toNat)
  case atStart => exact ⟨0, Nat.zero_le _, rfl, hx2, hq2, hap2, hb02⟩
  case round =>
    obtain ⟨k, hk, rfl, hx, hq, hap, hb⟩ := hrel
    clear hx2 hq2 hap2 hb02
    have hz := hb.size
    have hpl := pairsTo_len m cs k
    have hpl40 : (pairsTo m cs k).length ≤ 40 := by omega
    clear hpl
    have hrq : RdL cInt 1 wr _ (orderF m (cs.take k)) := RdS.of_own hq
    obtain ⟨Ap, cp, rfl, _, _⟩ := hx.rd.form
    obtain ⟨Aq, cq, rfl, _, _⟩ := hrq.form
    by_cases hlt : k < cs.length
    · have hr := h0.below hb
      obtain ⟨g, off, rfl, hg, hc⟩ := hr.cell cCross_len (by omega) hlt
      have k0 := hc 0 _ rfl
      have k1 := hc 1 _ rfl
      simp only [Nat.add_zero] at k0 k1
      clear hc
      have hcb := Hcs.out _ (List.getElem_mem hlt)
      have hsn := orderF_snoc m hlt
      have hord : IsOrd m (orderF m (cs.take k)) := IsOrd.order (fun c hc => Hcs.out c (List.mem_of_mem_take hc))
      have hol := hord.len
      have Hok := Lib.hid (hord.okB hm)
      have HP : Hid (pairsTo m cs (k + 1) = pairsTo m cs k ++ [pairAt (orderF m (cs.take k)) cs[k]]) := by show pairsTo m cs k ++ _ = _; rw [getD_cross cs hlt]
      obtain ⟨a, ha⟩ := Int.eq_ofNat_of_zero_le hcb.1
      have ha1 : a + 1 < m := by omega
      rw [ha] at k0 hcb
      rw [ha, show ((a : Nat) : Int).toNat = a from rfl] at hsn
      have Hsn := Lib.hid hsn
      clear hsn hord hcb
      obtain ⟨cc, hcc⟩ : ∃ cc, cs[k] = cc := ⟨_, rfl⟩
      rw [hcc] at k1 HP ha
      have HCC0 := Lib.hid hcc
      obtain ⟨ca, f⟩ := cc
      simp only at ha k1
      subst ha
      have HCC : Hid ((cs[k]).1 = (a : Int)) := by show _ = _; rw [HCC0.out]
      clear hcc HCC0
      generalize orderF m (cs.take k) = o at *
      have hal : a + 1 < o.length := by omega
      obtain ⟨g1, o1, rfl, _, hc1⟩ := hrq.cell (k := a) cInt_len (by omega) (by omega)
      obtain ⟨g2, o2, e', _, hc2⟩ := hrq.cell (k := a + 1) cInt_len (by omega) hal
      injection e' with e'
      injection e' with e1 e2
      subst e1 e2
      have q1 := hc1 0 _ rfl
      have q2 := hc2 0 _ rfl
      simp only [Nat.add_zero, Nat.mul_one] at q1 q2
      clear hc1 hc2
      have HX : Hid (pairAt o ((a : Int), f) = if f = true then [o[a], o[a + 1]] else [o[a + 1], o[a]]) := by
        unfold pairAt
        simp only [Int.toNat_natCast]
        rw [getD_get o a (by omega), getD_get o (a + 1) hal]
        rfl
      have Hal : Hid (a + 1 < o.length) := hal
      have Hlen2 := Lib.hid (swapL_len o a)
      have e1 : ((a : Int) + 1).toNat = a + 1 := by omega
      have i1 : (a : Int) < o.length := by omega
      have i2 : (a : Int) + 1 < o.length := by omega
      have hw := IntWalk.i64_in ((a : Int) + 1) (by omega)
      generalize hy : o[a + 1] = y at *
      generalize hxx : o[a] = x at *
      clear hy hxx hol hal hrq
      cases f
      · rw [if_neg (by simp)] at HX
        rw [HX.out] at HP
        clear HX
        have hbW : Below wr.heap.size wr ((wr.alloc (.cells #[.int .i64 y, .int .i64 x] 3)).alloc (.cells #[.slice (some ⟨wr.heap.size, 0, none⟩) 2 2] 28)) := ((Below.refl _ _).alloc (Nat.le_refl _) _).alloc (by simp) _
        obtain ⟨vs, hvl, hov, hvT, hvB, hnext⟩ := hx.lit hz (fun b hb => by simp at hb) hbW (lit_own #[.int .i64 y, .int .i64 x] [y, x] (.cells #[.slice (some ⟨wr.heap.size, 0, none⟩) 2 2] 28) rfl (by simp))
        have hqW := own_below hq hbW
        have hbW2 : Below w.heap.size w ((wr.alloc (.cells #[.int .i64 y, .int .i64 x] 3)).alloc (.cells #[.slice (some ⟨wr.heap.size, 0, none⟩) 2 2] 28)) := (hb.alloc hz _).alloc (by simp; omega) _
        have hrW := hr.below hbW
        rw [← hvl] at hpl40
        have HN := Lib.hid hnext
        clear hvl hx hnext hr
        go_upto_region 13 with (at_builtin; refine wpList_appendB _ rfl (.tmp 49) (.tmp 53) _ rfl 0 28 iR _ 1 24 Try.underlying74 hiR hzR0 hzR1 hzR2 rfl (by omega) _ vs.length vs rfl hov _ 1 [.slice (some ⟨wr.heap.size, 0, none⟩) 2 2] rfl (rdS_newAt (wr.alloc (.cells #[.int .i64 y, .int .i64 x] 3)) (wr.heap.size + 1) (by simp) #[.slice (some ⟨wr.heap.size, 0, none⟩) 2 2] _ 1 1 rfl (by simp [maxLen])) (by simp [Value.oneCell']) (by simp [maxLen]; omega) (by omega) (by omega) ?_; intro v4 w4 own4 gr4 at4)
        have hch := Chg.of_grown gr4
        have hx4 := HN.out _ _ own4 gr4 at4
        rw [← HP.out] at hx4
        have hq4 := own_chg hqW hch (fun b hb hb' => hap.out b hb hb')
        have hb4 := Below.chg hbW2 hch (by simp; omega) (fun b hb => (hvB b hb).1)
        have hz4 := hb4.size
        have hlt4 := (RdS.of_own hq4)
        obtain ⟨gc, oc, e, _, hcc⟩ := (h0.below hb4).cell cCross_len (by omega) hlt
        injection e with e
        injection e with e1 e2
        subst e1 e2
        have k0 := hcc 0 _ rfl
        simp only [Nat.add_zero] at k0
        rw [HCC.out] at k0
        clear own4 gr4 at4 hch hov hvT hvB hcc hqW hq hap
        obtain ⟨A4, c4, rfl, _, _⟩ := hx4.rd.form
        go_wp2_with fail
        refine (specSwap_any _ o a _ hlt4 Hok.out Hal.out).mono ?_
        rintro e w5 ⟨v5, rfl, own5, hb5⟩
        have hx5 := hx4.below hb5
        have hap5 : Hid (Apart v5 (.slice A4 (pairsTo m cs (k + 1)).length c4)) := fun b hb hb' => by
          have h1 := (own_lt own5 b hb).1
          obtain ⟨S, ⟨vs, _, ho, _, rfl⟩, hf, _⟩ := hx4
          have h3 := (hf.2 b (List.mem_append_left _ hb')).2
          omega
        have hb5' : Below w.heap.size w w5 := bl_trans hb4 hb5
        obtain ⟨A5, c5, rfl, _, _⟩ := (RdS.of_own own5).form
        have HX5 := Lib.hid hx5
        clear hx4 hx5 hb5 hq4 hlt4
        go_wp2_with fail
        go_roundw
        case rel => exact ⟨k + 1, by omega, by go_num, HX5.out, by rw [Hsn.out, Hlen2.out]; exact own_mono own5 (Nat.zero_le _), hap5, hb5'⟩
        case measure => simp [intOf]; omega

      · rw [if_pos rfl] at HX
        rw [HX.out] at HP
        clear HX
        have hbW : Below wr.heap.size wr ((wr.alloc (.cells #[.int .i64 x, .int .i64 y] 3)).alloc (.cells #[.slice (some ⟨wr.heap.size, 0, none⟩) 2 2] 28)) := ((Below.refl _ _).alloc (Nat.le_refl _) _).alloc (by simp) _
        obtain ⟨vs, hvl, hov, hvT, hvB, hnext⟩ := hx.lit hz (fun b hb => by simp at hb) hbW (lit_own #[.int .i64 x, .int .i64 y] [x, y] (.cells #[.slice (some ⟨wr.heap.size, 0, none⟩) 2 2] 28) rfl (by simp))
        have hqW := own_below hq hbW
        have hbW2 : Below w.heap.size w ((wr.alloc (.cells #[.int .i64 x, .int .i64 y] 3)).alloc (.cells #[.slice (some ⟨wr.heap.size, 0, none⟩) 2 2] 28)) := (hb.alloc hz _).alloc (by simp; omega) _
        have hrW := hr.below hbW
        rw [← hvl] at hpl40
        have HN := Lib.hid hnext
        clear hvl hx hnext hr
        go_upto_region 13 with (at_builtin; refine wpList_appendB _ rfl (.tmp 49) (.tmp 53) _ rfl 0 28 iR _ 1 24 Try.underlying74 hiR hzR0 hzR1 hzR2 rfl (by omega) _ vs.length vs rfl hov _ 1 [.slice (some ⟨wr.heap.size, 0, none⟩) 2 2] rfl (rdS_newAt (wr.alloc (.cells #[.int .i64 x, .int .i64 y] 3)) (wr.heap.size + 1) (by simp) #[.slice (some ⟨wr.heap.size, 0, none⟩) 2 2] _ 1 1 rfl (by simp [maxLen])) (by simp [Value.oneCell']) (by simp [maxLen]; omega) (by omega) (by omega) ?_; intro v4 w4 own4 gr4 at4)
        have hch := Chg.of_grown gr4
        have hx4 := HN.out _ _ own4 gr4 at4
        rw [← HP.out] at hx4
        have hq4 := own_chg hqW hch (fun b hb hb' => hap.out b hb hb')
        have hb4 := Below.chg hbW2 hch (by simp; omega) (fun b hb => (hvB b hb).1)
        have hz4 := hb4.size
        have hlt4 := (RdS.of_own hq4)
        obtain ⟨gc, oc, e, _, hcc⟩ := (h0.below hb4).cell cCross_len (by omega) hlt
        injection e with e
        injection e with e1 e2
        subst e1 e2
        have k0 := hcc 0 _ rfl
        simp only [Nat.add_zero] at k0
        rw [HCC.out] at k0
        clear own4 gr4 at4 hch hov hvT hvB hcc hqW hq hap
        obtain ⟨A4, c4, rfl, _, _⟩ := hx4.rd.form
        go_wp2_with fail
        refine (specSwap_any _ o a _ hlt4 Hok.out Hal.out).mono ?_
        rintro e w5 ⟨v5, rfl, own5, hb5⟩
        have hx5 := hx4.below hb5
        have hap5 : Hid (Apart v5 (.slice A4 (pairsTo m cs (k + 1)).length c4)) := fun b hb hb' => by
          have h1 := (own_lt own5 b hb).1
          obtain ⟨S, ⟨vs, _, ho, _, rfl⟩, hf, _⟩ := hx4
          have h3 := (hf.2 b (List.mem_append_left _ hb')).2
          omega
        have hb5' : Below w.heap.size w w5 := bl_trans hb4 hb5
        obtain ⟨A5, c5, rfl, _, _⟩ := (RdS.of_own own5).form
        have HX5 := Lib.hid hx5
        clear hx4 hx5 hb5 hq4 hlt4
        go_wp2_with fail
        go_roundw
        case rel => exact ⟨k + 1, by omega, by go_num, HX5.out, by rw [Hsn.out, Hlen2.out]; exact own_mono own5 (Nat.zero_le _), hap5, hb5'⟩
        case measure => simp [intOf]; omega
    · obtain rfl : k = cs.length := by omega
      go_wp2_with fail
      go_ret
      exact ⟨_, rfl, hx, hb⟩
theorem rep_succ (m k : Nat) : List.replicate (k + 1) (List.replicate m (0 : Int)) = List.replicate k (List.replicate m 0) ++ [List.replicate m 0] := List.replicate_succ'
set_option maxHeartbeats 8000000 in
set_option maxRecDepth 100000 in
theorem specTwistTable_any (m : Nat) (v : Value) (cs : List RCross) (w : World) (h : RdL cCross 2 w v cs) (hqc : crossesB m cs = true) :
    Calls Try.prog 102 #[.int .i64 m, v] w fun e w' => ∃ v', e = .returned v' ∧ RowsX [] w.heap.size w' v' (twL m cs) ∧ Below w.heap.size w w' := by
  have h0 := h
  obtain ⟨A, c, rfl, h1, h2⟩ := h.form
  obtain ⟨hn, hlen, hcs⟩ := crosses_len hqc
  have hm : 1 ≤ m ∧ m ≤ 7 := by omega
  obtain ⟨iR, hiR, hzR0, hzR1, hzR2⟩ := info_parts infoRow
  obtain ⟨i0, hi0, hz0, hz1, hz2⟩ := info_parts infoInt
  have hxa : RowsX [] w.heap.size (w.alloc (.cells #[] 28)) (.slice (some ⟨w.heap.size, 0, none⟩) 0 0) [] := RowsX.empty (Nat.le_refl _) (fun b hb => by simp at hb)
  have hba : Below w.heap.size w (w.alloc (.cells #[] 28)) := (Below.refl _ _).alloc (Nat.le_refl _) _
  have hC := specCrossesOk_any m _ cs _ (h0.below hba)
  rw [hqc] at hC
  have Hcs := Lib.hid hcs
  have HQ := Lib.hid hqc
  clear hcs hqc hn
  go_enter Try.func102, Try.ntmps102
  go_wp2_with fail
  refine hC.mono ?_
  rintro e w1 ⟨rfl, hb1⟩
  have hx1 := hxa.below hb1
  have hb01 : Below w.heap.size w w1 := bl_trans hba hb1
  clear hC hxa hba hb1
  go_wp2_with fail
  go_loopw [5, 6] (fun p i wr => ∃ k : Nat, k ≤ m ∧ i = .int .i64 k ∧ RowsX [] w.heap.size wr p (List.replicate k (List.replicate m 0)) ∧ Below w.heap.size w wr) (fun _ i _ => m - (intOf i).toNat)
  case atStart => exact ⟨0, Nat.zero_le _, rfl, hx1, hb01⟩
  case round =>
    obtain ⟨k, hk, rfl, hx, hb⟩ := hrel
    clear hx1 hb01
    have hz := hb.size
    have HR := Lib.hid (rep_succ m k)
    have hl7 : (List.replicate k (List.replicate m (0 : Int))).length ≤ 7 := by simp; omega
    obtain ⟨Ap, cp, rfl, _, _⟩ := hx.rd.form
    by_cases hlt : k < m
    · generalize List.replicate k (List.replicate m (0 : Int)) = rk at *
      go_wp2_with (first
        | (at_make; refine wpList_make_full _ rfl _ _ _ rfl wr.heap.size 3 i0 _ 1 Try.underlying28 hi0 hz0 hz1 _ _ _ _ m rfl rfl rfl rfl (by rw [hz2]; omega) (by simp [maxLen]; omega) (Nat.le_refl _) ?_; intro w2 hown hgr; rw [row_made, Nat.mul_one] at hown; have hb2 : Below wr.heap.size wr w2 := (Below.refl _ _).grown hgr (Nat.le_refl _) (by simp); obtain ⟨vs, hvl, hov, hvT, hvB, hnext⟩ := hx.lit hz (fun b hb => by simp at hb) (hb2.alloc hb2.size (.cells #[.slice (some ⟨wr.heap.size, 0, none⟩) m m] 28)) (r := List.replicate m 0) (u := .slice (some ⟨wr.heap.size, 0, none⟩) m m) (by rw [List.length_replicate]; exact hown.alloc _); rw [← hvl] at hl7; have HVL := Lib.hid hvl; have HN := Lib.hid hnext; clear hvl hnext hgr)
        | (at_builtin; refine wpList_appendB _ rfl (.tmp 21) (.tmp 24) _ rfl 0 28 iR _ 1 24 Try.underlying74 hiR hzR0 hzR1 hzR2 rfl (by omega) _ vs.length vs rfl hov _ 1 [.slice (some ⟨wr.heap.size, 0, none⟩) m m] rfl (rdS_new w2 #[.slice (some ⟨wr.heap.size, 0, none⟩) m m] _ 1 1 rfl (by simp [maxLen])) (by simp [Value.oneCell']) (by simp [maxLen]; omega) (by omega) (by omega) ?_; intro v4 w4 own4 gr4 at4))
      have hch := Chg.of_grown gr4
      have hx4 := HN.out _ _ own4 gr4 at4
      have hz2' := hb2.size
      have hb4 := Below.chg ((bl_trans hb hb2).alloc (by omega) (.cells #[.slice (some ⟨wr.heap.size, 0, none⟩) m m] 28)) hch (by simp; omega) (fun b hb => (hvB b hb).1)
      have HX4 := Lib.hid hx4
      clear hx4 own4 gr4 at4 hch hov hvT hvB hown
      go_wp2_with fail
      go_roundw
      case rel => exact ⟨k + 1, by omega, by go_num, by rw [HR.out]; exact HX4.out, hb4⟩
      case measure => simp [intOf]; omega
    · obtain rfl : k = m := by omega
      have hx' : RowsX [] w.heap.size wr (.slice Ap (List.replicate k (List.replicate k (0 : Int))).length cp) (twL k (cs.take 0)) := hx
      have HL := Lib.hid (show (List.replicate k (List.replicate k (0 : Int))).length = k by simp)
      rw [HL.out] at hx' ⊢
      clear hl7 HR hx
      obtain ⟨St, ht, hft, _⟩ := hx'
      have hr := h0.below hb
      go_wp2_with fail
      refine (specPairsOf_any k _ cs _ hr HQ.out).mono ?_
      rintro e w2 ⟨vp, rfl, ⟨Sp, hp, hfp, _⟩, hb2⟩
      have hz2' := hb2.size
      obtain ⟨Aq, cq, rfl, _, _⟩ := hp.rd.form
      have ht2 := ht.below hb2
      have hb02 := bl_trans hb hb2
      have hSp : ∀ b ∈ Sp, wr.heap.size ≤ b := fun b hb => (hfp.2 b hb).1
      have hSt : ∀ b ∈ St, w.heap.size ≤ b ∧ b < wr.heap.size := hft.2
      have HGO : Hid (∀ go oo, Aq = some ⟨go, oo, none⟩ → wr.heap.size ≤ go) := fun go oo e => by
        subst e
        obtain ⟨vs, _, _, _, e⟩ := hp
        exact hSp go (by rw [e]; simp [Value.ownBlock])
      have hSn := hft.1
      have hPn := hfp.1
      have HPA := Lib.hid (pairsTo_at k cs cs.length)
      have hpl := pairsTo_len k cs cs.length
      rw [hpl]
      rw [hpl] at hp
      have HPL := Lib.hid hpl
      clear ht hb2 hft hfp hr hpl
      obtain ⟨ps, hps⟩ : ∃ ps, pairsTo k cs cs.length = ps := ⟨_, rfl⟩
      rw [hps] at hp HPA HPL
      clear hps
      obtain ⟨Z, hZ⟩ : ∃ Z, wr.heap.size = Z := ⟨_, rfl⟩
      rw [hZ] at hSp hSt hz2' HGO
      clear hZ hz
      go_wp2_with fail
      go_loopw [8, 9] (fun i _ wx => ∃ q : Nat, q ≤ cs.length ∧ i = .int .i64 q ∧ OwRows 28 3 wx St (.slice Ap k cp) (twL k (cs.take q)) ∧ OwRows 28 3 wx Sp (.slice Aq cs.length cq) ps ∧ Z ≤ wx.heap.size ∧ Below w.heap.size w wx) (fun i _ _ => cs.length - (intOf i).toNat)
      case atStart => exact ⟨0, Nat.zero_le _, rfl, ht2, hp, hz2', hb02⟩
      case round =>
        obtain ⟨q, hq, rfl, ht, hp, hzz, hb⟩ := hrel
        clear ht2 hz2' hb02
        by_cases hlt : q < cs.length
        · have hr := h0.below hb
          obtain ⟨gc, oc, e, _, hc⟩ := hr.cell cCross_len (by omega) hlt
          subst e
          have k1 := hc 1 _ rfl
          clear hc hr
          have hcb := Hcs.out _ (List.getElem_mem hlt)
          have hord : IsOrd k (orderF k (cs.take q)) := IsOrd.order (fun c hc => Hcs.out c (List.mem_of_mem_take hc))
          have htw := twL_snoc k hlt
          obtain ⟨a, ha⟩ := Int.eq_ofNat_of_zero_le hcb.1
          obtain ⟨x, y, hx, hy, hne, ex, ey, ex', ey'⟩ := pair_of hord (k := a) (by omega)
          have hpa := HPA.out q (by rw [HPL.out]; exact hlt)
          rw [getD_cross cs hlt] at hpa
          unfold pairAt at hpa
          rw [ha, show ((a : Nat) : Int).toNat = a from rfl] at htw hpa
          rw [ex', ey'] at htw
          rw [ex, ey] at hpa
          have HPS := Lib.hid hpa
          have HTQ := Lib.hid (twL_sq (n := k) (cs := cs.take q) (fun c hc => Hcs.out c (List.mem_of_mem_take hc)))
          have HBD : Hid (∀ i j, -1000 ≤ cellT (twL k (cs.take q)) i j ∧ cellT (twL k (cs.take q)) i j ≤ 1000) := fun i j => by have := twL_bd Hcs.out q (by omega) i j; omega
          have HT0 := Lib.hid htw
          clear htw hpa hord hcb ex ey ex' ey'
          obtain ⟨cc, hcc⟩ : ∃ cc, cs[q] = cc := ⟨_, rfl⟩
          rw [hcc] at k1 HPS HT0
          obtain ⟨ca, f⟩ := cc
          simp only at k1
          clear hcc ha
          generalize twL k (cs.take q) = TT at *
          cases f
          · have hps : ps[q]'(by rw [HPL.out]; exact hlt) = [(y : Int), (x : Int)] := by rw [HPS.out, if_neg (by simp)]
            have HTW : Hid (twL k (cs.take (q + 1)) = addT (addT TT y x (-1)) x y (-1)) := HT0.out.trans (add2_comm HTQ.out hx hy hne _)
            obtain ⟨go, co, g, cg, e, c1, c2, c3, hgS⟩ := hp.pairAt hPn (by rw [HPL.out]; exact hlt) hps
            injection e with e1 e2 e3
            subst e1 e3
            clear e2
            obtain ⟨tb, ctb, tg, tc, e, d1, d2, f1, n1, n2, n3, H1⟩ := ht.pickT hSn HTQ.out hy hx
            injection e with e1 _ e3
            subst e1 e3
            have H1' := H1 (-1)
            have hb1 := HBD.out y x
            have hq2 := addT_sq HTQ.out hy x (-1)
            have hb2 : -1001 ≤ cellT (addT TT y x (-1)) x y ∧ cellT (addT TT y x (-1)) x y ≤ 1001 := by
              rw [addT_cell HTQ.out hy hx]
              split
              · omega
              · have := HBD.out x y; omega
            have HQ2 := Lib.hid hq2
            obtain ⟨T1, hT1⟩ : ∃ T1, addT TT y x (-1) = T1 := ⟨_, rfl⟩
            rw [hT1] at H1' HQ2 hb2 HTW
            obtain ⟨v1, hv1⟩ : ∃ v1, cellT TT y x + (-1) = v1 := ⟨_, rfl⟩
            have hw1 : IntKind.i64.wrap (cellT TT y x + (-1)) = v1 := by rw [← hv1]; exact IntWalk.i64_in _ (by omega)
            rw [hv1] at H1'
            clear hv1 hT1 H1 hq2 ht hb1
            generalize cellT TT y x = t1 at *
            have hPk : (y : Int) < (k : Int) := by omega
            have hQk : (x : Int) < (k : Int) := by omega
            have H1h := Lib.hid H1'
            have m1 : ¬ tb = tg := fun e => n1 e.symm
            have m2 : ¬ go = tg := fun e => by have := (hSt _ n2).2; have := HGO.out _ _ rfl; omega
            have m3 : ¬ g = tg := fun e => by have := (hSt _ n2).2; have := hSp _ hgS; omega
            have hps2 := Lib.hid hps
            clear H1' hps
            go_upto_region 15 with (fail)
            go_still_tail 35, (by kernel_rfl)
            change wpList _ _ _ _ _ (World.drew wr)
            go_upto_region 16 with (fail)
            have hch : Chg [tg] wr (wr.setCell ⟨tg, x, none⟩ (.int .i64 v1)).drew := (chg_set (Chg.refl _ _) (by simp) : Chg [tg] wr (wr.setCell ⟨tg, x, none⟩ (.int .i64 v1))).trans (Chg.of_below ((Below.refl _ _).drew) _)
            have htg := hSt _ n2
            have ht1 : OwRows 28 3 (wr.setCell ⟨tg, x, none⟩ (.int .i64 v1)).drew St (.slice (some ⟨tb, 0, none⟩) k cp) T1 := H1h.out
            have hp1 : OwRows 28 3 (wr.setCell ⟨tg, x, none⟩ (.int .i64 v1)).drew Sp (.slice (some ⟨go, 0, none⟩) cs.length cq) ps := hp.chg hch (fun b hb hb' => by have := hSp b hb; simp at hb'; omega)
            have hb1 : Below w.heap.size w (wr.setCell ⟨tg, x, none⟩ (.int .i64 v1)).drew := (hb.setCell htg.1 _).drew
            have hz1 : Z ≤ (wr.setCell ⟨tg, x, none⟩ (.int .i64 v1)).drew.heap.size := by show Z ≤ (wr.setCell ⟨tg, x, none⟩ (.int .i64 v1)).heap.size; rw [World.size_setCell]; exact hzz
            clear hch c1 c2 c3 d1 d2 f1 H1h hp hb hzz k1 m1 m2 m3 n1 n2 n3 hw1 hgS
            generalize (wr.setCell ⟨tg, x, none⟩ (.int .i64 v1)).drew = W1 at *
            obtain ⟨go', co', g', cg', e, c1, c2, c3, hgS⟩ := hp1.pairAt hPn (by rw [HPL.out]; exact hlt) hps2.out
            injection e with e1 e2 e3
            injection e1 with e1
            injection e1 with e1
            subst e1 e3
            clear e2
            obtain ⟨tb', ctb', tg', tc', e, d1, d2, f1, n1, n2, n3, H1⟩ := ht1.pickT hSn HQ2.out hx hy
            injection e with e1 e2 e3
            injection e1 with e1
            injection e1 with e1
            subst e1 e3
            have H1' := H1 (-1)
            rw [← HTW.out] at H1'
            obtain ⟨v2, hv2⟩ : ∃ v2, cellT T1 x y + (-1) = v2 := ⟨_, rfl⟩
            have hw1 : IntKind.i64.wrap (cellT T1 x y + (-1)) = v2 := by rw [← hv2]; exact IntWalk.i64_in _ (by omega)
            rw [hv2] at H1'
            clear hv2 H1 ht1 hb2
            generalize cellT T1 x y = t2 at *
            have H1h := Lib.hid H1'
            have htg' := hSt _ n2
            have m1 : ¬ tb = tg' := fun e => n1 e.symm
            have m2 : ¬ go = tg' := fun e => by have := HGO.out _ _ rfl; omega
            have m3 : ¬ g' = tg' := fun e => by have := hSp _ hgS; omega
            have hch : Chg [tg'] W1 (W1.setCell ⟨tg', y, none⟩ (.int .i64 v2)) := chg_set (Chg.refl _ _) (by simp)
            have hp2 := Lib.hid (hp1.chg hch (fun b hb hb' => by have := hSp b hb; simp at hb'; omega))
            have hb3 : Hid (Below w.heap.size w (W1.setCell ⟨tg', y, none⟩ (.int .i64 v2))) := hb1.setCell htg'.1 _
            have hz3 : Hid (Z ≤ (W1.setCell ⟨tg', y, none⟩ (.int .i64 v2)).heap.size) := by show Z ≤ _; rw [World.size_setCell]; exact hz1
            clear H1' hps2 hch hp1
            go_still_tail 35, (by kernel_rfl)
            change wpList _ _ _ _ _ (World.drew W1)
            go_wp2_with fail
            go_roundw
            case rel => exact ⟨q + 1, by omega, by go_num, H1h.out, hp2.out, hz3.out, hb3.out.drew⟩
            case measure => simp [intOf]; omega
          · have hps : ps[q]'(by rw [HPL.out]; exact hlt) = [(x : Int), (y : Int)] := by rw [HPS.out, if_pos rfl]
            have HTW : Hid (twL k (cs.take (q + 1)) = addT (addT TT x y (1)) y x (1)) := HT0.out
            obtain ⟨go, co, g, cg, e, c1, c2, c3, hgS⟩ := hp.pairAt hPn (by rw [HPL.out]; exact hlt) hps
            injection e with e1 e2 e3
            subst e1 e3
            clear e2
            obtain ⟨tb, ctb, tg, tc, e, d1, d2, f1, n1, n2, n3, H1⟩ := ht.pickT hSn HTQ.out hx hy
            injection e with e1 _ e3
            subst e1 e3
            have H1' := H1 (1)
            have hb1 := HBD.out x y
            have hq2 := addT_sq HTQ.out hx y (1)
            have hb2 : -1001 ≤ cellT (addT TT x y (1)) y x ∧ cellT (addT TT x y (1)) y x ≤ 1001 := by
              rw [addT_cell HTQ.out hx hy]
              split
              · omega
              · have := HBD.out y x; omega
            have HQ2 := Lib.hid hq2
            obtain ⟨T1, hT1⟩ : ∃ T1, addT TT x y (1) = T1 := ⟨_, rfl⟩
            rw [hT1] at H1' HQ2 hb2 HTW
            obtain ⟨v1, hv1⟩ : ∃ v1, cellT TT x y + (1) = v1 := ⟨_, rfl⟩
            have hw1 : IntKind.i64.wrap (cellT TT x y + (1)) = v1 := by rw [← hv1]; exact IntWalk.i64_in _ (by omega)
            rw [hv1] at H1'
            clear hv1 hT1 H1 hq2 ht hb1
            generalize cellT TT x y = t1 at *
            have hPk : (x : Int) < (k : Int) := by omega
            have hQk : (y : Int) < (k : Int) := by omega
            have H1h := Lib.hid H1'
            have m1 : ¬ tb = tg := fun e => n1 e.symm
            have m2 : ¬ go = tg := fun e => by have := (hSt _ n2).2; have := HGO.out _ _ rfl; omega
            have m3 : ¬ g = tg := fun e => by have := (hSt _ n2).2; have := hSp _ hgS; omega
            have hps2 := Lib.hid hps
            clear H1' hps
            go_upto_region 15 with (fail)
            go_still_tail 35, (by kernel_rfl)
            change wpList _ _ _ _ _ (World.drew wr)
            go_upto_region 16 with (fail)
            have hch : Chg [tg] wr (wr.setCell ⟨tg, y, none⟩ (.int .i64 v1)).drew := (chg_set (Chg.refl _ _) (by simp) : Chg [tg] wr (wr.setCell ⟨tg, y, none⟩ (.int .i64 v1))).trans (Chg.of_below ((Below.refl _ _).drew) _)
            have htg := hSt _ n2
            have ht1 : OwRows 28 3 (wr.setCell ⟨tg, y, none⟩ (.int .i64 v1)).drew St (.slice (some ⟨tb, 0, none⟩) k cp) T1 := H1h.out
            have hp1 : OwRows 28 3 (wr.setCell ⟨tg, y, none⟩ (.int .i64 v1)).drew Sp (.slice (some ⟨go, 0, none⟩) cs.length cq) ps := hp.chg hch (fun b hb hb' => by have := hSp b hb; simp at hb'; omega)
            have hb1 : Below w.heap.size w (wr.setCell ⟨tg, y, none⟩ (.int .i64 v1)).drew := (hb.setCell htg.1 _).drew
            have hz1 : Z ≤ (wr.setCell ⟨tg, y, none⟩ (.int .i64 v1)).drew.heap.size := by show Z ≤ (wr.setCell ⟨tg, y, none⟩ (.int .i64 v1)).heap.size; rw [World.size_setCell]; exact hzz
            clear hch c1 c2 c3 d1 d2 f1 H1h hp hb hzz k1 m1 m2 m3 n1 n2 n3 hw1 hgS
            generalize (wr.setCell ⟨tg, y, none⟩ (.int .i64 v1)).drew = W1 at *
            obtain ⟨go', co', g', cg', e, c1, c2, c3, hgS⟩ := hp1.pairAt hPn (by rw [HPL.out]; exact hlt) hps2.out
            injection e with e1 e2 e3
            injection e1 with e1
            injection e1 with e1
            subst e1 e3
            clear e2
            obtain ⟨tb', ctb', tg', tc', e, d1, d2, f1, n1, n2, n3, H1⟩ := ht1.pickT hSn HQ2.out hy hx
            injection e with e1 e2 e3
            injection e1 with e1
            injection e1 with e1
            subst e1 e3
            have H1' := H1 (1)
            rw [← HTW.out] at H1'
            obtain ⟨v2, hv2⟩ : ∃ v2, cellT T1 y x + (1) = v2 := ⟨_, rfl⟩
            have hw1 : IntKind.i64.wrap (cellT T1 y x + (1)) = v2 := by rw [← hv2]; exact IntWalk.i64_in _ (by omega)
            rw [hv2] at H1'
            clear hv2 H1 ht1 hb2
            generalize cellT T1 y x = t2 at *
            have H1h := Lib.hid H1'
            have htg' := hSt _ n2
            have m1 : ¬ tb = tg' := fun e => n1 e.symm
            have m2 : ¬ go = tg' := fun e => by have := HGO.out _ _ rfl; omega
            have m3 : ¬ g' = tg' := fun e => by have := hSp _ hgS; omega
            have hch : Chg [tg'] W1 (W1.setCell ⟨tg', x, none⟩ (.int .i64 v2)) := chg_set (Chg.refl _ _) (by simp)
            have hp2 := Lib.hid (hp1.chg hch (fun b hb hb' => by have := hSp b hb; simp at hb'; omega))
            have hb3 : Hid (Below w.heap.size w (W1.setCell ⟨tg', x, none⟩ (.int .i64 v2))) := hb1.setCell htg'.1 _
            have hz3 : Hid (Z ≤ (W1.setCell ⟨tg', x, none⟩ (.int .i64 v2)).heap.size) := by show Z ≤ _; rw [World.size_setCell]; exact hz1
            clear H1' hps2 hch hp1
            go_still_tail 35, (by kernel_rfl)
            change wpList _ _ _ _ _ (World.drew W1)
            go_wp2_with fail
            go_roundw
            case rel => exact ⟨q + 1, by omega, by go_num, H1h.out, hp2.out, hz3.out, hb3.out.drew⟩
            case measure => simp [intOf]; omega
        · obtain rfl : q = cs.length := by omega
          rw [List.take_length] at ht
          go_wp2_with fail
          go_ret
          exact ⟨_, rfl, ⟨St, ht, ⟨hSn, fun b hb => by have := hSt b hb; omega⟩, fun b _ => by simp⟩, hb⟩
set_option maxHeartbeats 4000000 in
set_option maxRecDepth 100000 in
theorem specTwistOf_any (m i j : Nat) (v : Value) (cs : List RCross) (w : World) (h : RdL cCross 2 w v cs) (hqc : crossesB m cs = true) (hi : i < m) (hj : j < m) :
    Calls Try.prog 119 #[.int .i64 m, v, .int .i64 i, .int .i64 j] w fun e w' => e = .returned (.int .i64 (cellT (twL m cs) i j)) ∧ Below w.heap.size w w' := by
  have h0 := h
  obtain ⟨A, c, rfl, h1, h2⟩ := h.form
  obtain ⟨hn, hlen, hcs⟩ := crosses_len hqc
  have HSQ := Lib.hid (twL_sq hcs)
  have hw := IntWalk.i64_in ((m : Int) - 1) (by omega)
  clear hcs
  go_enter Try.func119, Try.ntmps119
  go_wp2_with fail
  refine (specTwistTable_any m _ cs _ h0 hqc).mono ?_
  rintro e w2 ⟨vt, rfl, hx, hb2⟩
  obtain ⟨At, ct, rfl, _, _⟩ := hx.rd.form
  have hrd := hx.rd
  rw [HSQ.out.len] at hrd
  (try rw [HSQ.out.len])
  obtain ⟨gt, ot, cot, gr, offr, cr, e, d1, d2⟩ := hrd.cellT HSQ.out hi hj
  injection e with e1 e2 e3
  subst e1 e3
  obtain ⟨t, ht⟩ : ∃ t, cellT (twL m cs) i j = t := ⟨_, rfl⟩
  rw [ht] at d2
  have HT := Lib.hid ht
  clear hx hrd HSQ ht
  have hi0 : (i : Int) < (m : Int) := by omega
  have hj0 : (j : Int) < (m : Int) := by omega
  go_wp2_with (go_at_call 126; refine (l01In_t (inB_iff.2 ⟨by omega, by omega⟩)).mono ?_; rintro e w' ⟨rfl, rfl⟩)
  go_ret
  exact ⟨by rw [HT.out]; rfl, hb2⟩
set_option maxHeartbeats 8000000 in
set_option maxRecDepth 100000 in
theorem specWound_any (m : Nat) (v : Value) (cs : List RCross) (w : World) (h : RdL cCross 2 w v cs) (hqc : crossesB m cs = true) :
    Calls Try.prog 43 #[.int .i64 m, v] w fun e w' => ∃ v', e = .returned v' ∧ RowsX [] w.heap.size w' v' (woundL m cs) ∧ Below w.heap.size w w' := by
  have h0 := h
  obtain ⟨A, c, rfl, h1, h2⟩ := h.form
  obtain ⟨hn, hlen, hcs⟩ := crosses_len hqc
  have hm : 1 ≤ m ∧ m ≤ 7 := by omega
  obtain ⟨iR, hiR, hzR0, hzR1, hzR2⟩ := info_parts infoRow
  have HQ := Lib.hid hqc
  have HSQ := Lib.hid (twL_sq hcs)
  clear hcs hqc hn
  have hxa : RowsX [] w.heap.size (w.alloc (.cells #[] 28)) (.slice (some ⟨w.heap.size, 0, none⟩) 0 0) [] := RowsX.empty (Nat.le_refl _) (fun b hb => by simp at hb)
  have hba : Below w.heap.size w (w.alloc (.cells #[] 28)) := (Below.refl _ _).alloc (Nat.le_refl _) _
  have hrd1 := h0.below hba
  go_enter Try.func43, Try.ntmps43
  go_wp2_with fail
  refine (specTwistTable_any m _ cs _ hrd1 HQ.out).mono ?_
  rintro e w2 ⟨vt, rfl, ⟨St, htw, hft, _⟩, hb2⟩
  have hxw : RowsX St w.heap.size w2 (.slice (some ⟨w.heap.size, 0, none⟩) 0 0) [] := (hxa.apart (fun b hb => (hft.2 b hb).1)).below hb2
  have hbw : Below w.heap.size w w2 := bl_trans hba hb2
  have hSt : ∀ b ∈ St, b < w2.heap.size := fun b hb => (hft.2 b hb).2
  have hsn := hft.1
  clear hrd1 hft hb2 hba hxa
  obtain ⟨At, ct, rfl, _, _⟩ := htw.rd.form
  rw [HSQ.out.len] at htw
  (try rw [HSQ.out.len])
  go_upto_region 3 with (fail)
  have HWL : Hid (woundL m cs = woundTo (twL m cs) m m) := rfl
  generalize twL m cs = tw at *
  obtain ⟨W0, hW0⟩ : ∃ W0, w2 = W0 := ⟨_, rfl⟩
  rw [hW0] at hxw htw hbw hSt ⊢
  clear hW0
  have hunf : woundL m cs = woundTo tw m m := HWL.out
  have HF := Lib.hid hunf
  clear hunf HWL
  go_wp2_with fail
  go_loopw [5, 7, 8] (fun p i _ wr => ∃ q : Nat, q ≤ m ∧ i = .int .i64 q ∧ RowsX St w.heap.size wr p (woundTo tw m q) ∧ OwRows 28 3 wr St (.slice At m ct) tw ∧ W0.heap.size ≤ wr.heap.size ∧ Below w.heap.size w wr) (fun _ i _ _ => m - (intOf i).toNat)
  case atStart => exact ⟨0, Nat.zero_le _, rfl, hxw, htw, Nat.le_refl _, hbw⟩
  case round =>
    obtain ⟨q, hq, rfl, hx, ht, hzW, hb⟩ := hrel
    clear hxw htw hbw
    by_cases hlt : q < m
    · obtain ⟨Ap, cp, rfl, _, _⟩ := hx.rd.form
      have hx' : RowsX St w.heap.size wr (.slice Ap (woundTo tw m q).length cp) (woundTo tw m q ++ woundR tw q (q + 1)) := by rw [woundR_start, List.append_nil]; exact hx
      clear hx
      go_wp2_with fail
      go_loopw [5, 8] (fun p i wr => ∃ q2 : Nat, (q < q2 ∧ q2 ≤ m) ∧ i = .int .i64 q2 ∧ RowsX St w.heap.size wr p (woundTo tw m q ++ woundR tw q q2) ∧ OwRows 28 3 wr St (.slice At m ct) tw ∧ W0.heap.size ≤ wr.heap.size ∧ Below w.heap.size w wr) (fun _ i _ => m - (intOf i).toNat)
      case atStart => exact ⟨q + 1, ⟨by omega, by omega⟩, by go_num, hx', ht, hzW, hb⟩
      case round =>
        obtain ⟨q2, ⟨hq2, hq2'⟩, rfl, hx, ht, hzW, hb⟩ := hrel
        clear hx'
        have hz := hb.size
        have hl60 := woundTo_49 (ll := tw) hm.2 (show q ≤ m by omega) hq2'
        by_cases hlt2 : q2 < m
        · obtain ⟨go, oo, co, g, off, cu, e, c1, c2⟩ := ht.rd.cellT HSQ.out hlt hlt2
          injection e with e1 _ e3
          subst e1 e3
          have Ht := Lib.hid (fun hc => woundR_t (ll := tw) (i := q) (k := q2) hq2 hc)
          have Hf := Lib.hid (fun hc => woundR_f (ll := tw) (i := q) (k := q2) hc)
          obtain ⟨Ap, cp, rfl, _, _⟩ := hx.rd.form
          generalize cellT tw q q2 = t at *
          by_cases h0 : t = 0
          · have hr := Hf.out h0
            have HR := Lib.hid hr
            have h0' : (t != 0) = false := by rw [bne_eq_false_iff_eq]; exact h0
            clear hr h0 Ht Hf
            go_wp2_with fail
            go_roundw
            case rel => exact ⟨q2 + 1, ⟨by omega, by omega⟩, by go_num, by rw [HR.out]; exact hx, ht, hzW, hb⟩
            case measure => simp [intOf]; omega
          · have hr := Ht.out h0
            have HR := Lib.hid hr
            have h0' : (t != 0) = true := by rw [bne_iff_ne]; exact h0
            clear hr h0 Ht Hf
            have hbW : Below wr.heap.size wr ((wr.alloc (.cells #[.int .i64 q, .int .i64 q2] 3)).alloc (.cells #[.slice (some ⟨wr.heap.size, 0, none⟩) 2 2] 28)) := ((Below.refl _ _).alloc (Nat.le_refl _) _).alloc (by simp) _
            obtain ⟨vs, hvl, hov, hvT, hvB, hnext⟩ := hx.lit hz (fun b hb => by have := hSt b hb; omega) hbW (lit_own #[.int .i64 q, .int .i64 q2] [(q : Int), (q2 : Int)] (.cells #[.slice (some ⟨wr.heap.size, 0, none⟩) 2 2] 28) rfl (by simp))
            have htW := ht.below hbW
            have hbW2 : Below w.heap.size w ((wr.alloc (.cells #[.int .i64 q, .int .i64 q2] 3)).alloc (.cells #[.slice (some ⟨wr.heap.size, 0, none⟩) 2 2] 28)) := (hb.alloc hz _).alloc (by simp; omega) _
            rw [← hvl] at hl60
            have Hvl := Lib.hid hvl
            clear hvl hx
            go_wp2_with (at_builtin; refine wpList_appendB _ rfl (.tmp 35) (.tmp 39) _ rfl 0 28 iR _ 1 24 Try.underlying74 hiR hzR0 hzR1 hzR2 rfl (by omega) _ vs.length vs rfl hov _ 1 [.slice (some ⟨wr.heap.size, 0, none⟩) 2 2] rfl (rdS_newAt (wr.alloc (.cells #[.int .i64 q, .int .i64 q2] 3)) (wr.heap.size + 1) (by simp) #[.slice (some ⟨wr.heap.size, 0, none⟩) 2 2] _ 1 1 rfl (by simp [maxLen])) (by simp [Value.oneCell']) (by simp [maxLen]; omega) (by omega) (by omega) ?_; intro v4 w4 own4 gr4 at4)
            have hch := Chg.of_grown gr4
            have hx4 := Lib.hid (hnext _ _ own4 gr4 at4)
            have ht4 := Lib.hid (htW.kept hch hvT)
            have hb4 := Lib.hid (Below.chg hbW2 hch (by simp; omega) (fun b hb => (hvB b hb).1))
            have hz4 : W0.heap.size ≤ w4.heap.size := by have := hch.size; simp at this; omega
            obtain ⟨A4, c4, rfl, _, _⟩ := hx4.out.rd.form
            clear own4 gr4 at4 hch hnext hov hvT hvB
            go_wp2_with fail
            go_roundw
            case rel => exact ⟨q2 + 1, ⟨by omega, by omega⟩, by go_num, by rw [HR.out, ← List.append_assoc]; exact hx4.out, ht4.out, hz4, hb4.out⟩
            case measure => simp [intOf]; omega
        · obtain rfl : q2 = m := by omega
          obtain ⟨Ap, cp, rfl, _, _⟩ := hx.rd.form
          go_wp2_with fail
          go_roundw
          case rel => exact ⟨q + 1, by omega, by go_num, hx, ht, hzW, hb⟩
          case measure => simp [intOf]; omega
    · obtain rfl : q = m := by omega
      obtain ⟨Ap, cp, rfl, _, _⟩ := hx.rd.form
      go_wp2_with fail
      go_ret
      refine ⟨_, rfl, ?_, hb⟩
      rw [HF.out]
      obtain ⟨S, hS1, hS2, _⟩ := hx
      exact ⟨S, hS1, hS2, fun b _ => by simp⟩
set_option maxHeartbeats 8000000 in
set_option maxRecDepth 100000 in
theorem specTurn_any (m i k : Nat) (f : Bool) (w : World) (hik : i < k) (hk : k < m) (hm : m ≤ 7) :
    Calls Try.prog 120 #[.int .i64 m, .int .i64 i, .int .i64 k, .bool f] w fun e w' => ∃ v', e = .returned (.tuple #[v', .bool true]) ∧ w'.ownsRow w.heap.size 115 2 v' (turnL i k f).length ((turnL i k f).flatMap cCross) ∧ Below w.heap.size w w' := by
  obtain ⟨iX, hiX, hzX0, hzX1, hzX2⟩ := info_parts infoCross
  have hownA := World.ownsRow_made (size := 2) (e := 115) w #[] 0 (Nat.le_refl _) (by simp [maxLen]) rfl
  have hbA : Below w.heap.size w (w.alloc (.cells #[] 115)) := (Below.refl _ _).alloc (Nat.le_refl _) _
  have i1 : ¬ (i : Int) < 0 := by omega
  have i2 : ¬ (i : Int) ≥ (k : Int) := by omega
  have i3 : ¬ (k : Int) ≥ (m : Int) := by omega
  have i4 : IntKind.i64.wrap ((k : Int) - 1) = (k : Int) - 1 := IntWalk.i64_in _ (by omega)
  have i5 : IntKind.i64.wrap ((m : Int) - 1) = (m : Int) - 1 := IntWalk.i64_in _ (by omega)
  obtain ⟨d, hd⟩ : ∃ d, k = i + d + 1 := ⟨k - 1 - i, by omega⟩
  have hd1 : k - 1 - i = d := by omega
  have HT : Hid (turnL i k f = (downL i d ++ [((i : Int), f), ((i : Int), f)]) ++ upL i d) := by unfold turnL; rw [hd1]; rfl
  have hkd : (k : Int) - 1 = (i : Int) + (d : Int) := by omega
  have HK := Lib.hid hd
  clear hd
  go_enter Try.func120, Try.ntmps120
  go_wp2_with (go_at_call 126; refine (l01In_t (inB_iff.2 ⟨by omega, by omega⟩)).mono ?_; rintro e w' ⟨rfl, rfl⟩)
  (try rw [hkd])
  (try generalize decide ((i : Int) < 0) = b1)
  (try generalize decide ((k : Int) ≤ (i : Int)) = b2)
  (try generalize decide (k ≤ i) = b4)
  (try generalize decide (m ≤ k) = b5)
  (try generalize decide ((m : Int) ≤ (k : Int)) = b3)
  clear i1 i2 i3 i4 i5 hd1 hkd
  have hd6 : d ≤ 6 := by have := HK.out; omega
  go_loopw [10, 11] (fun p a wr => ∃ (e : Nat) (done : List RCross), e ≤ d ∧ a = .int .i64 ((i : Int) + (e : Int)) ∧ Hid (done ++ downL i e = downL i d) ∧ wr.ownsRow w.heap.size 115 2 p done.length (done.flatMap cCross) ∧ done.length + e = d ∧ Below w.heap.size w wr) (fun _ a _ => (intOf a).toNat - i)
  case atStart => exact ⟨d, [], Nat.le_refl _, rfl, rfl, hownA, by simp, hbA⟩
  case round =>
    obtain ⟨e, done, he, rfl, hdn, hown, hle, hb⟩ := hrel
    clear hownA hbA
    have hz := hb.size
    obtain ⟨Ap, cp, rfl, _, _⟩ := (RdS.of_own hown).form
    by_cases h0 : e = 0
    · subst h0
      have hdn' : done = downL i d := by have := hdn.out; rwa [downL, List.append_nil] at this
      have HD := Lib.hid hdn'
      have hdl : done.length ≤ 7 := by omega
      clear hdn hdn' hle
      rw [show (i : Int) + ((0 : Nat) : Int) = (i : Int) from Int.add_zero _]
      go_wp2_with (at_builtin; refine wpList_appendB _ rfl (.tmp 44) (.tmp 51) _ rfl w.heap.size 115 iX _ 2 16 Try.underlying44 hiX hzX0 hzX1 hzX2 rfl (by omega) _ done.length (done.flatMap cCross) rfl (hown.alloc _) _ 2 [.int .i64 i, .bool f, .int .i64 i, .bool f] rfl (rdS_new wr #[.int .i64 i, .bool f, .int .i64 i, .bool f] _ 2 2 rfl (by simp [maxLen])) (by simp [Value.oneCell']) (by simp [maxLen]; omega) (by omega) (by simp; omega) ?_; intro v4 w4 own4 gr4 at4)
      have hb4 := below_own (hown.alloc _) gr4 (by simp; omega)
      have hb5 : Below w.heap.size w w4 := (hb.alloc hz _).trans hb4
      have own5 : w4.ownsRow w.heap.size 115 2 v4 (done ++ [((i : Int), f), ((i : Int), f)]).length ((done ++ [((i : Int), f), ((i : Int), f)]).flatMap cCross) := by rw [List.length_append, List.flatMap_append]; exact own4
      have HL : Hid ((done ++ [((i : Int), f), ((i : Int), f)]).length = done.length + 2) := by show _ = _; rw [List.length_append]; rfl
      obtain ⟨A4, c4, rfl, _, _⟩ := (RdS.of_own own5).form
      have HT2 : Hid (turnL i k f = (done ++ [((i : Int), f), ((i : Int), f)]) ++ upL i d) := by rw [HD.out]; exact HT.out
      generalize done ++ [((i : Int), f), ((i : Int), f)] = dn at *
      have hdn9 : dn.length ≤ 9 := by rw [HL.out]; omega
      clear own4 gr4 at4 hb4 hown HD HL HT
      go_wp2_with fail
      go_loopw [10, 12] (fun p a wr => ∃ e : Nat, e ≤ d ∧ a = .int .i64 ((i : Int) + 1 + (e : Int)) ∧ wr.ownsRow w.heap.size 115 2 p (dn ++ upL i e).length ((dn ++ upL i e).flatMap cCross) ∧ Below w.heap.size w wr) (fun _ a _ => k - (intOf a).toNat)
      case atStart => exact ⟨0, Nat.zero_le _, int_eq (by simp), by rw [show dn ++ upL i 0 = dn from List.append_nil dn]; exact own5, hb5⟩
      case round =>
        obtain ⟨e, he, rfl, hown, hb⟩ := hrel
        clear own5 hb5
        have hz := hb.size
        obtain ⟨Ap, cp, rfl, _, _⟩ := (RdS.of_own hown).form
        have hlu : (dn ++ upL i e).length = dn.length + e := by rw [List.length_append, upL_len]
        have hl16 : (dn ++ upL i e).length ≤ 16 := by omega
        have HS : Hid (dn ++ upL i (e + 1) = (dn ++ upL i e) ++ [(((i + 1 + e : Nat) : Int), true)]) := by show _ = _; rw [upL, ← List.append_assoc, show i + e + 1 = i + 1 + e by omega]
        by_cases hlt : e < d
        · have hlt' : (i : Int) + 1 + (e : Int) < (k : Int) := by have := HK.out; omega
          clear hlu
          obtain ⟨a, ha⟩ : ∃ a, i + 1 + e = a := ⟨_, rfl⟩
          have ha' : (i : Int) + 1 + (e : Int) = (a : Int) := by omega
          rw [ha] at HS
          rw [ha'] at hlt' ⊢
          clear ha'
          have HA := Lib.hid ha
          clear ha
          generalize dn ++ upL i e = du at *
          go_wp2_with (at_builtin; refine wpList_appendB _ rfl (.tmp 60) (.tmp 63) _ rfl w.heap.size 115 iX _ 2 16 Try.underlying44 hiX hzX0 hzX1 hzX2 rfl (by omega) _ du.length (du.flatMap cCross) rfl (hown.alloc _) _ 1 [.int .i64 a, .bool true] rfl (rdS_new wr #[.int .i64 a, .bool true] _ 2 1 rfl (by simp [maxLen])) (by simp [Value.oneCell']) (by simp [maxLen]; omega) (by omega) (by simp; omega) ?_; intro v4 w4 own4 gr4 at4)
          have hb4 := below_own (hown.alloc _) gr4 (by simp; omega)
          clear gr4 at4
          go_wp2_with fail
          go_roundw
          case rel => exact ⟨e + 1, by omega, int_eq (by have := HA.out; omega), by rw [HS.out, List.length_append, List.flatMap_append]; exact own4, (hb.alloc hz _).trans hb4⟩
          case measure => have := HA.out; simp [intOf]; omega
        · obtain rfl : e = d := by omega
          have hlt' : ¬ (i : Int) + 1 + (e : Int) < (k : Int) := by have := HK.out; omega
          clear hlu HS
          generalize dn ++ upL i e = du at *
          go_wp2_with fail
          go_ret2
          rw [HT2.out]
          exact ⟨_, rfl, hown, hb⟩
    · obtain ⟨e, rfl⟩ : ∃ e', e = e' + 1 := ⟨e - 1, by omega⟩
      have hgt : ((i + (e + 1) : Nat) : Int) > (i : Int) := by omega
      have HS : Hid ((done ++ [(((i + (e + 1) : Nat) : Int), false)]) ++ downL i e = downL i d) := by have := hdn.out; rw [downL] at this; rw [List.append_assoc]; exact this
      have hdl : done.length ≤ 7 := by omega
      have HLE := Lib.hid hle
      clear hdn h0 hle
      obtain ⟨a, ha⟩ : ∃ a, i + (e + 1) = a := ⟨_, rfl⟩
      have ha' : (i : Int) + ((e + 1 : Nat) : Int) = (a : Int) := by omega
      rw [ha] at hgt HS
      rw [ha']
      clear ha'
      have HA := Lib.hid ha
      have hw1 : IntKind.i64.wrap ((a : Int) - 1) = (a : Int) - 1 := IntWalk.i64_in _ (by omega)
      clear ha
      go_wp2_with (at_builtin; refine wpList_appendB _ rfl (.tmp 39) (.tmp 42) _ rfl w.heap.size 115 iX _ 2 16 Try.underlying44 hiX hzX0 hzX1 hzX2 rfl (by omega) _ done.length (done.flatMap cCross) rfl (hown.alloc _) _ 1 [.int .i64 a, .bool false] rfl (rdS_new wr #[.int .i64 a, .bool false] _ 2 1 rfl (by simp [maxLen])) (by simp [Value.oneCell']) (by simp [maxLen]; omega) (by omega) (by simp; omega) ?_; intro v4 w4 own4 gr4 at4)
      have hb4 := below_own (hown.alloc _) gr4 (by simp; omega)
      clear gr4 at4
      go_wp2_with fail
      go_roundw
      case rel => exact ⟨e, done ++ [((a : Int), false)], by omega, int_eq (by have := HA.out; omega), HS.out, by rw [List.length_append, List.flatMap_append]; exact own4, by rw [List.length_append]; have := HLE.out; simp; omega, (hb.alloc hz _).trans hb4⟩
      case measure => have := HA.out; simp [intOf]; omega
end Go.Proofs.Ytjbhlbcjljdjmaa
