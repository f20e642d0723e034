/- Contracts: the order after crossings, the exchanges that sort, the way home, of the program. Written by a program (gen_y7.py). -/
import Derived.Test.YtjbhlbcjljdjmaaY6
import Derived.Test.YtjbhlbcjljdjmaaKC
import Derived.BigRegion
import Derived.StillTailTactics
namespace Go.Proofs.Ytjbhlbcjljdjmaa
open Go.RowKit
theorem orderAfter1_any (a x y : Int) (f : Bool) (w : World) :
    Calls Try.prog 144 #[.agg #[.int .i64 a, .bool f], .int .i64 x, .int .i64 y] w fun e w' => e = .returned (.tuple #[]) ∧ Below w.heap.size w w' := by
  go_enter Try.func144, Try.ntmps144
  go_wp2_with fail
  go_end0
  exact ⟨rfl, by (repeat' (first | exact Below.refl _ _ | (refine Below.setCell ?_ (by first | omega | (simp; omega) | (simp; done)) _) | (refine Below.alloc ?_ (by first | omega | (simp; omega) | (simp; done)) _) | (refine Below.drew ?_) | (refine below_drewN ?_ _) | (refine Below.trans ?_ (Below.mono (by assumption) (by first | omega | (simp; omega) | (simp; done))))))⟩
set_option maxHeartbeats 8000000 in
set_option maxRecDepth 100000 in
theorem followNo_any (m : Nat) (v : Value) (cs : List RCross) (w : World) (h : RdL cCross 2 w v cs) (hm : 1 ≤ m ∧ m ≤ 7) (hlen : cs.length ≤ 40) (hcs : ∀ c ∈ cs, 0 ≤ c.1 ∧ c.1 ≤ (m : Int) - 2) :
    Calls Try.prog 143 #[.int .i64 m, v, .func (.func 144) #[] #[]] w fun e w' => ∃ v', e = .returned v' ∧ w'.ownsRow w.heap.size 3 1 v' (orderF m cs).length ((orderF m cs).flatMap cInt) ∧ Below w.heap.size w w' := by
  have h0 := h
  obtain ⟨A, c, rfl, h1, h2⟩ := h.form
  go_enter Try.func143, Try.ntmps143
  go_wp2_with fail
  refine (upTo_any m w (by omega)).mono ?_
  rintro e w1 ⟨v1, rfl, own1, hb1⟩
  have hm0 : 0 < (upN m).length := by rw [upN_len]; omega
  obtain ⟨go, co, rfl⟩ := own_form own1 hm0
  have hgo := own1.lt go rfl
  have hz1 := hb1.size
  rw [upN_len] at own1
  rw [upN_len]
  clear hm0
  have own1' : w1.ownsRow w.heap.size 3 1 (.slice (some ⟨go, 0, none⟩) m co) m ((orderF m (cs.take 0)).flatMap cInt) := own1
  have Hcs := Lib.hid hcs
  clear own1 hcs

  go_wp2_with fail
  go_loopw [9, 14] (fun _ i wr => ∃ k : Nat, k ≤ cs.length ∧ i = .int .i64 k ∧ wr.ownsRow w.heap.size 3 1 (.slice (some ⟨go, 0, none⟩) m co) m ((orderF m (cs.take k)).flatMap cInt) ∧ Below w.heap.size w wr) (fun _ i _ => cs.length - (intOf i).toNat)
  case atStart => exact ⟨0, Nat.zero_le _, rfl, own1', hb1⟩
  case round =>
    obtain ⟨k, hk, rfl, hown, hb⟩ := hrel
    clear own1' hb1
    by_cases hlt : k < cs.length
    · have hr := h0.below hb
      obtain ⟨g, off, rfl, hg, hc⟩ := hr.cell cCross_len (by omega) hlt
      have k0 := hc 0 _ rfl
      have k1 := hc 1 _ rfl
      simp only [Nat.add_zero] at k0 k1
      clear hc
      have hcb := Hcs.out _ (List.getElem_mem hlt)
      have hsn := orderF_snoc m hlt
      have hord : IsOrd m (orderF m (cs.take k)) := IsOrd.order (fun c hc => Hcs.out c (List.mem_of_mem_take hc))
      have hol := hord.len

      obtain ⟨a, ha⟩ := Int.eq_ofNat_of_zero_le hcb.1
      rw [ha] at k0 hcb
      rw [ha, show ((a : Nat) : Int).toNat = a from rfl] at hsn
      have ha1 : a + 1 < m := by omega

      generalize cs[k] = cc at *
      obtain ⟨ca, f⟩ := cc
      simp only at ha k0 k1
      subst ha
      generalize orderF m (cs.take k) = o at *
      have hal : a + 1 < o.length := by omega
      have Hsn : Hid (orderF m (cs.take (k + 1)) = (o.set a o[a + 1]).set (a + 1) o[a]) := by rw [← swapL_eq hal]; exact hsn
      clear hsn hord
      go_upto_region 5 with (fail)
      have Lo := Loc.new wr #[.int .i64 a, .bool f] 115
      have hgow := (hown.lt go rfl).2
      have hown2 := hown.alloc (.cells #[.int .i64 a, .bool f] 115)
      have hb2 := hb.alloc (o := (.cells #[.int .i64 a, .bool f] 115)) hb.size
      obtain ⟨gb, hgb⟩ : ∃ g, wr.heap.size = g := ⟨_, rfl⟩
      have hgbW : gb < (wr.alloc (.cells #[.int .i64 a, .bool f] 115)).heap.size := by simp; omega
      have hwgb : w.heap.size ≤ gb := by have := hb.size; omega
      rw [hgb] at Lo hgow
      clear hown hr k0 k1

      generalize wr.alloc (.cells #[.int .i64 a, .bool f] 115) = W at *
      rw [hgb]
      clear hgb hb hg
      have b0 := (Lo 0 _ rfl).1
      have b1 := (Lo 1 _ rfl).1
      have q1 := row_cell hown2 (k := a) (by omega)
      have q2 := row_cell hown2 (k := a + 1) hal
      have i1 : (a : Int) < (m : Int) := by omega
      have i2 : (a : Int) + 1 < (m : Int) := by omega
      have hw := IntWalk.i64_in ((a : Int) + 1) (by omega)
      have e1 : ((a : Int) + 1).toNat = a + 1 := by omega
      have ia : a < m := by omega
      have i4 : (0 : Int) ≤ (a : Int) + 1 := by omega
      have i5 : ¬ (a : Int) + 1 < 0 := by omega
      go_still_tail 13, (by kernel_rfl)
      clear i1 i2 i4 i5
      change wpList _ _ _ _ _ (World.drew W)
      have Hok := Lib.hid (show a < o.length ∧ a + 1 < o.length from ⟨by omega, hal⟩)
      go_wp2_with (go_at_call 144; refine (orderAfter1_any _ _ _ _ _).mono ?_; rintro e w2 ⟨rfl, hb3⟩)
      have hb3' : Below W.heap.size W w2 := bl_trans ((Below.refl _ _).drew) hb3
      have hown3 := own_below hown2 hb3'
      have hb4 : Below w.heap.size w w2 := bl_trans hb2 hb3'
      replace Lo := Lo.below hb3'
      clear b0 b1 q1 q2 hown2 hb2 hb3 hb3' hgbW
      have b0 := (Lo 0 _ rfl).1
      have q1 := row_cell hown3 (k := a) (by omega)
      have q2 := row_cell hown3 (k := a + 1) hal
      have fz1 := hown3.frozenAt a
      have fz2 := hown3.frozenAt (a + 1)
      have ne1 : ¬ go = gb := by omega
      have ne2 : ¬ gb = go := by omega
      have hz4 := hb4.size
      have hgz : go < w2.heap.size := (hown3.lt go rfl).2
      have HB := Lib.hid (show Below w.heap.size w ((w2.setCell ⟨go, a, none⟩ (.int .i64 o[a + 1])).setCell ⟨go, a + 1, none⟩ (.int .i64 o[a])) from (hb4.setCell hgo.1 _).setCell hgo.1 _)
      have H3 := Lib.hid (row_stored (row_stored hown3 a o[a + 1]) (a + 1) o[a])
      rw [← Hsn.out] at H3
      clear Hsn hown3 hb4 Lo
      generalize o[a + 1] = y at *
      generalize o[a] = x at *
      clear hol hal
      go_region
      go_wp2_with fail
      go_roundw
      case rel => exact ⟨k + 1, by omega, by go_num, H3.out, HB.out.drew⟩
      case measure => simp [intOf]; omega
    · obtain rfl : k = cs.length := by omega
      rw [List.take_length] at hown
      go_wp2_with fail
      go_ret
      rw [orderF_len]
      exact ⟨_, rfl, hown, hb⟩
set_option maxHeartbeats 2000000 in
theorem implOrderAfter_any (n : Int) (v : Value) (cs : List RCross) (w : World) (h : RdL cCross 2 w v cs) :
    Calls Try.prog 114 #[.int .i64 n, v] w fun e w' => ∃ v', e = .returned v' ∧ w'.ownsRow w.heap.size 3 1 v' (ordR n cs).length ((ordR n cs).flatMap cInt) ∧ Below w.heap.size w w' := by
  have h0 := h
  obtain ⟨A, c, rfl, h1, h2⟩ := h.form
  go_enter Try.func114, Try.ntmps114
  go_wp2_with fail
  refine twoB (implCrossesOk_any n _ cs _ h0) (fun w1 hq hb1 => ?_) (fun w1 hq hb1 => ?_)
  · obtain ⟨hn, hlen, hcs⟩ := crosses_len hq.out
    obtain ⟨m, rfl⟩ := Int.eq_ofNat_of_zero_le (show 0 ≤ n by omega)
    have hm : 1 ≤ m ∧ m ≤ 7 := by omega
    have HQ := Lib.hid hq.out
    have Hc := Lib.hid hcs
    clear hq hcs
    go_wp2_with fail
    refine (followNo_any m _ cs _ (h0.below hb1) hm (by omega) Hc.out).mono ?_
    rintro e w2 ⟨v2, rfl, own2, hb2⟩
    go_wp2_with fail
    go_ret
    rw [ordR_t HQ.out]
    exact ⟨_, rfl, own_mono own2 hb1.size, bl_trans hb1 hb2⟩
  · go_wp2_with fail
    go_ret
    rw [ordR_f hq.out]
    exact ⟨_, rfl, World.ownsRow_nil _ _ _ _, hb1⟩
theorem ext_getD' {a b : List Int} (hl : a.length = b.length) (h : ∀ j, j < a.length → a.getD j 0 = b.getD j 0) : a = b := by
  apply List.ext_getElem hl
  intro j h1 h2
  have := h j h1
  rwa [List.getD_eq_getElem?_getD, List.getElem?_eq_getElem h1, List.getD_eq_getElem?_getD, List.getElem?_eq_getElem h2] at this
set_option maxHeartbeats 2000000 in
set_option maxRecDepth 100000 in
theorem implSameInts_any (v v' : Value) (a b : List Int) (w : World) (h : RdL cInt 1 w v a) (hq : RdL cInt 1 w v' b) :
    Calls Try.prog 113 #[v, v'] w fun e w' => e = .returned (.bool (decide (a = b))) ∧ Below w.heap.size w w' := by
  obtain ⟨A, c, rfl, h1, h2⟩ := h.form
  obtain ⟨A', c', rfl, h1', h2'⟩ := hq.form
  by_cases hl : a.length = b.length
  · go_enter Try.func113, Try.ntmps113
    go_wp2_with fail
    go_loopw [5, 13] (fun _ i wr => ∃ k : Nat, k ≤ a.length ∧ i = .int .i64 k ∧ Hid (∀ j, j < k → a.getD j 0 = b.getD j 0) ∧ Below w.heap.size w wr) (fun _ i _ => a.length - (intOf i).toNat)
    case atStart => exact ⟨0, Nat.zero_le _, rfl, fun j hj => absurd hj (by omega), by (repeat' (first | exact Below.refl _ _ | (refine Below.setCell ?_ (by first | omega | (simp; omega) | (simp; done)) _) | (refine Below.alloc ?_ (by first | omega | (simp; omega) | (simp; done)) _) | (refine Below.drew ?_) | (refine below_drewN ?_ _) | (refine Below.trans ?_ (Below.mono (by assumption) (by first | omega | (simp; omega) | (simp; done))))))⟩
    case round =>
      obtain ⟨k, hk, rfl, hall, hb⟩ := hrel
      have hz := hb.size
      by_cases hlt : k < a.length
      · have hltb : k < b.length := by omega
        obtain ⟨g, off, rfl, hg, hc⟩ := (h.below hb).cell cInt_len (by omega) hlt
        have k0 := hc 0 _ rfl
        obtain ⟨g', off', rfl, hg', hc'⟩ := (hq.below hb).cell cInt_len (by omega) hltb
        have k2 := hc' 0 _ rfl
        simp only [Nat.add_zero, Nat.mul_one] at k0 k2
        clear hc hc'
        by_cases he : a[k] = b[k]
        · have he' : (a[k] != b[k]) = false := by rw [bne_eq_false_iff_eq]; exact he
          have He := Lib.hid he
          clear he
          go_wp2_with fail
          go_quiet (fail)
          go_wp2_with fail
          go_roundw
          case rel => exact ⟨k + 1, by omega, by go_num, (fun j hj => by
            rcases Nat.lt_succ_iff_lt_or_eq.1 hj with h | rfl
            · exact hall.out j h
            · rw [getD_get a j hlt, getD_get b j hltb]; exact He.out), by (repeat' (first | exact Below.refl _ _ | (refine Below.setCell ?_ (by first | omega | (simp; omega) | (simp; done)) _) | (refine Below.alloc ?_ (by first | omega | (simp; omega) | (simp; done)) _) | (refine Below.drew ?_) | (refine below_drewN ?_ _) | (refine Below.trans ?_ (Below.mono (by assumption) (by first | omega | (simp; omega) | (simp; done))))))⟩
          case measure => simp [intOf]; omega
        · have he' : (a[k] != b[k]) = true := by rw [bne_iff_ne]; exact he
          have He := Lib.hid he
          clear he
          go_wp2_with fail
          go_quiet (fail)
          go_wp2_with fail
          go_ret
          exact ⟨ret_bool (decide_eq_false (fun e => He.out (by subst e; rfl))).symm, by (repeat' (first | exact Below.refl _ _ | (refine Below.setCell ?_ (by first | omega | (simp; omega) | (simp; done)) _) | (refine Below.alloc ?_ (by first | omega | (simp; omega) | (simp; done)) _) | (refine Below.drew ?_) | (refine below_drewN ?_ _) | (refine Below.trans ?_ (Below.mono (by assumption) (by first | omega | (simp; omega) | (simp; done))))))⟩
      · go_wp2_with fail
        go_ret
        exact ⟨ret_bool (decide_eq_true (ext_getD' hl (fun j hj => hall.out j (by omega)))).symm, by (repeat' (first | exact Below.refl _ _ | (refine Below.setCell ?_ (by first | omega | (simp; omega) | (simp; done)) _) | (refine Below.alloc ?_ (by first | omega | (simp; omega) | (simp; done)) _) | (refine Below.drew ?_) | (refine below_drewN ?_ _) | (refine Below.trans ?_ (Below.mono (by assumption) (by first | omega | (simp; omega) | (simp; done))))))⟩
  · go_enter Try.func113, Try.ntmps113
    go_wp2_with fail
    go_ret
    exact ⟨ret_bool (decide_eq_false (fun e => hl (by rw [e]))).symm, by (repeat' (first | exact Below.refl _ _ | (refine Below.setCell ?_ (by first | omega | (simp; omega) | (simp; done)) _) | (refine Below.alloc ?_ (by first | omega | (simp; omega) | (simp; done)) _) | (refine Below.drew ?_) | (refine below_drewN ?_ _) | (refine Below.trans ?_ (Below.mono (by assumption) (by first | omega | (simp; omega) | (simp; done))))))⟩
set_option maxHeartbeats 2000000 in
theorem implIsHome_any (m : Nat) (v : Value) (cs : List RCross) (w : World) (h : RdL cCross 2 w v cs) (hq : crossesB m cs = true) :
    Calls Try.prog 63 #[.int .i64 m, v] w fun e w' => e = .returned (.bool (decide (orderF m cs = upN m))) ∧ Below w.heap.size w w' := by
  have h0 := h
  obtain ⟨A, c, rfl, h1, h2⟩ := h.form
  obtain ⟨hn, hlen, hcs⟩ := crosses_len hq
  have hC := implOrderAfter_any (m : Int) _ cs w h0
  rw [ordR_t hq] at hC
  have hm : m ≤ 100000 := by omega
  clear hcs hq
  go_enter Try.func63, Try.ntmps63
  go_wp2_with fail
  refine hC.mono ?_
  rintro e w1 ⟨v1, rfl, own1, hb1⟩
  have hr1 : RdL cInt 1 w1 v1 (orderF m cs) := RdS.of_own own1
  obtain ⟨A1, c1, rfl, _, _⟩ := hr1.form
  clear own1 hC
  go_wp2_with fail
  refine (upTo_any m _ hm).mono ?_
  rintro e w2 ⟨v2, rfl, own2, hb2⟩
  have hr2 : RdL cInt 1 w2 v2 (upN m) := RdS.of_own own2
  obtain ⟨A2, c2, rfl, _, _⟩ := hr2.form
  have hr3 := hr1.below hb2
  clear own2 hr1
  go_wp2_with fail
  refine (implSameInts_any _ _ _ _ _ hr3 hr2).mono ?_
  rintro e w3 ⟨rfl, hb3⟩
  go_wp2_with fail
  go_ret
  exact ⟨rfl, bl_trans (bl_trans hb1 hb2) hb3⟩
set_option maxHeartbeats 8000000 in
set_option maxRecDepth 100000 in
theorem implSorting_any (m : Nat) (v : Value) (l : List Int) (w : World) (h : RdL cInt 1 w v l) (hord : IsOrd m l) (hm : 1 ≤ m ∧ m ≤ 7) :
    Calls Try.prog 139 #[v] w fun e w' => ∃ v', e = .returned v' ∧ w'.ownsRow w.heap.size 3 1 v' (swapsF l).length ((swapsF l).flatMap cInt) ∧ Below w.heap.size w w' := by
  have h0 := h
  have hl : l.length = m := hord.len
  obtain ⟨A, c, rfl, h1, h2⟩ := h.form
  obtain ⟨iI, hiI, hzI0, hzI1, hzI2⟩ := info_parts infoInt
  have hi49 := inv_49 hord hm.2
  have HS0 : Hid (SortSt m l [] l) := ⟨hord, rfl⟩
  have hO := implOrderOk_any _ l w h0
  rw [hord.okB hm] at hO
  clear hord
  rw [hl] at h0 ⊢
  have hlm : l.length ≤ 1048576 := by omega
  have Hl := Lib.hid hl
  clear hl h
  go_enter Try.func139, Try.ntmps139
  go_wp2_with fail
  rw [Hl.out] at hO
  refine hO.mono ?_
  rintro e w1 ⟨rfl, hb1⟩
  have h3 : RdL cInt 1 w1 (.slice A l.length c) l := by rw [Hl.out]; exact h0.below hb1
  clear hO
  have hC := copyOf_any _ l w1 h3 hlm
  rw [Hl.out] at hC
  clear h3
  go_wp2_with fail
  refine hC.mono ?_
  rintro e w2 ⟨v2, rfl, own2, hb2⟩
  have hz1 := hb1.size
  have hz2 := hb2.size
  obtain ⟨go, co, rfl⟩ := own_form own2 (by omega)
  have hgo := own2.lt go rfl
  have hb02 : Below w.heap.size w w2 := bl_trans hb1 hb2
  have hownA := own_mono (World.ownsRow_made (size := 1) (e := 3) w2 #[] 0 (Nat.le_refl _) (by simp [maxLen]) rfl) (show w.heap.size ≤ w2.heap.size by omega)
  have own3 := own_mono (own2.alloc (.cells #[] 3)) hz1
  have hbA : Below w.heap.size w (w2.alloc (.cells #[] 3)) := hb02.alloc (by omega) _
  have hapA : Hid (Apart (.slice (some ⟨go, 0, none⟩) m co) (.slice (some ⟨w2.heap.size, 0, none⟩) 0 0)) := fun b hb hb' => by
    simp [Value.ownBlock] at hb hb'
    omega
  have hgo' : w.heap.size ≤ go := by omega
  clear hC hb1 hb2 own2 hb02
  go_wp2_with fail
  go_loopw [4, 5, 6] (fun p ag _ wr => ∃ (d o : List Int) (b : Bool), ag = .bool b ∧ wr.ownsRow w.heap.size 3 1 p d.length (d.flatMap cInt) ∧ wr.ownsRow w.heap.size 3 1 (.slice (some ⟨go, 0, none⟩) m co) m (o.flatMap cInt) ∧ Hid (Apart (.slice (some ⟨go, 0, none⟩) m co) p) ∧ Hid (SortSt m l d o) ∧ Hid (b = false → inv o = 0) ∧ Below w.heap.size w wr) (fun p ag _ _ => 49 - slLen p + boolN ag)
  case atStart => exact ⟨[], l, true, rfl, hownA, own3, hapA, HS0, fun e => absurd e (by simp), hbA⟩
  case round =>
    obtain ⟨d, o, b, rfl, hp, hq, hap, hst, hb0, hb⟩ := hrel
    clear hownA own3 hapA HS0 hbA
    obtain ⟨Ap, cp, rfl, _, _⟩ := (RdS.of_own hp).form
    cases b
    · go_wp2_with fail
      go_ret
      rw [hst.out.end_ (by simpa using hb0.out)]
      exact ⟨_, rfl, hp, hb⟩
    · clear hb0
      go_wp2_with fail
      go_loopw [4, 5, 6] (fun p ag i wi => ∃ (d' o' : List Int) (b' : Bool) (k : Nat), ag = .bool b' ∧ i = .int .i64 k ∧ k < m ∧ wi.ownsRow w.heap.size 3 1 p d'.length (d'.flatMap cInt) ∧ wi.ownsRow w.heap.size 3 1 (.slice (some ⟨go, 0, none⟩) m co) m (o'.flatMap cInt) ∧ Hid (Apart (.slice (some ⟨go, 0, none⟩) m co) p) ∧ Hid (SortSt m l d' o') ∧ Hid (b' = false → UpTo o' k ∧ d'.length = d.length) ∧ Hid (b' = true → d'.length = d.length + 1) ∧ Below w.heap.size w wi) (fun _ _ i _ => 8 - (intOf i).toNat)
      case atStart => exact ⟨d, o, false, 0, rfl, rfl, by omega, hp, hq, hap, hst, fun _ => ⟨UpTo.zero o, rfl⟩, fun e => absurd e (by simp), hb⟩
      case round =>
        obtain ⟨d', o', b', k, rfl, rfl, hk, hp, hq, hap, hst, hbf, hbt, hb⟩ := hrel
        obtain ⟨Ap, cp, rfl, _, _⟩ := (RdS.of_own hp).form
        have Hol := Lib.hid hst.out.ord.len
        have hlen := hst.out.len
        have hd49 : d'.length ≤ 49 := by omega
        have Hlen := Lib.hid hlen
        clear hlen
        cases b'
        · by_cases hlt : k + 1 < m
          · have hlti : (k : Int) + 1 < (m : Int) := by omega
            have hk1 : k < o'.length := by rw [Hol.out]; omega
            have hk2 : k + 1 < o'.length := by rw [Hol.out]; omega
            have q1 := row_cell hq hk1
            have q2 := row_cell hq hk2
            have hz := hb.size
            have hgw := (hq.lt go rfl).2
            have e1 : ((k : Int) + 1).toNat = k + 1 := by omega
            have hw := IntWalk.i64_in ((k : Int) + 1) (by omega)
            by_cases hx : o'[k + 1] < o'[k]
            · have hfd : FirstDesc o' k := (hbf.out rfl).1.first hst.out.ord hk2 (by omega)
              have hinv := inv_swap o' k hk2 hx
              have hd48 : d'.length < 49 := by have := Hlen.out; omega
              have HST : Hid (SortSt m l (d' ++ [(k : Int)]) (swapL o' k)) := hst.out.step hfd
              have HDL := Lib.hid (hbf.out rfl).2
              have Hsw := Lib.hid (swapL_eq hk2)
              have hgt : o'[k] > o'[k + 1] := hx
              have HOK := Lib.hid (show k < o'.length ∧ k + 1 < o'.length from ⟨hk1, hk2⟩)
              clear hfd hinv hbf hbt hst Hol
              go_wp2_with fail
              go_quiet (fail)
              rename_i nq
              go_upto_region 11 with (fail)
              have hdr := below_drewN (Below.refl wr.heap.size wr) nq
              have hpW := own_below hp hdr
              have hqW := own_below hq hdr
              have hbW := below_drewN hb nq
              have hgW : go < (wr.drewN nq).heap.size := by simp; exact hgw
              have hzW : w.heap.size ≤ (wr.drewN nq).heap.size := by simp; omega
              clear q1 q2 hp hq hb hdr
              generalize wr.drewN nq = W at *
              have q1 := row_cell hqW HOK.out.1
              have q2 := row_cell hqW HOK.out.2
              have fz1 := hqW.frozenAt k
              have fz2 := hqW.frozenAt (k + 1)
              have H3 := Lib.hid (row_stored (row_stored hqW k o'[k + 1]) (k + 1) o'[k])
              rw [← Hsw.out] at H3
              have HB := Lib.hid (show Below w.heap.size w ((W.setCell ⟨go, k, none⟩ (.int .i64 o'[k + 1])).setCell ⟨go, k + 1, none⟩ (.int .i64 o'[k])) from (hbW.setCell hgo' _).setCell hgo' _)
              have HP := Lib.hid (own_chg hpW (chg_set (chg_set (o := k) (u := .int .i64 o'[k + 1]) (Chg.refl [go] W) (by simp)) (by simp) : Chg [go] W ((W.setCell ⟨go, k, none⟩ (.int .i64 o'[k + 1])).setCell ⟨go, k + 1, none⟩ (.int .i64 o'[k]))) (fun x hx hx' => by simp at hx'; subst hx'; exact hap.out _ (by simp [Value.ownBlock]) hx))
              have hzS : ((W.setCell ⟨go, k, none⟩ (.int .i64 o'[k + 1])).setCell ⟨go, k + 1, none⟩ (.int .i64 o'[k])).heap.size = W.heap.size := by simp
              have HZ := Lib.hid hzS
              clear hpW hqW hbW Hsw hzS
              generalize swapL o' k = o2 at *
              generalize o'[k + 1] = y at *
              generalize o'[k] = x at *
              clear hk1 hk2 HOK
              go_region
              have hp2 := HP.out
              have hq2 := H3.out
              have hz2 := HZ.out
              have hb2 := HB.out
              clear HP H3 HZ HB fz1 fz2 q1 q2
              generalize ((W.setCell ⟨go, k, none⟩ (.int .i64 y)).setCell ⟨go, k + 1, none⟩ (.int .i64 x)) = V at *
              have hp2' : V.drew.ownsRow w.heap.size 3 1 (.slice Ap d'.length cp) d'.length (d'.flatMap cInt) := hp2
              have hq2' : V.drew.ownsRow w.heap.size 3 1 (.slice (some ⟨go, 0, none⟩) m co) m (o2.flatMap cInt) := hq2
              have hb2' : Below w.heap.size w V.drew := hb2.drew
              have hz2' : w.heap.size ≤ V.drew.heap.size := by show w.heap.size ≤ V.heap.size; omega
              clear hp2 hq2 hb2 hz2
              generalize V.drew = V' at *
              go_wp2_with (at_builtin; refine wpList_appendB _ rfl (.tmp 51) (.tmp 53) _ rfl w.heap.size 3 iI _ 1 8 Try.underlying28 hiI hzI0 hzI1 hzI2 rfl (by omega) _ d'.length (d'.flatMap cInt) rfl (hp2'.alloc _) _ 1 [.int .i64 k] rfl (rdS_new V' #[.int .i64 k] _ 1 1 rfl (by simp [maxLen])) (by simp [Value.oneCell']) (by simp [maxLen]; omega) (by omega) (by simp; omega) ?_; intro v4 w4 own4 gr4 at4)
              obtain ⟨A4, c4, rfl, _, _⟩ := (RdS.of_own own4).form
              have hch := Chg.of_grown gr4
              have hb4 := below_own (hp2'.alloc _) gr4 (by simp; omega)
              have q4 := Lib.hid (own_chg (hq2'.alloc _) hch hap.out)
              have ap4 := Lib.hid (apart_grow (hq2'.alloc _) hap.out (Nat.le_refl _) at4)
              clear gr4 at4 hch hp2' hq2'
              go_wp2_with fail
              go_roundw
              case rel => exact ⟨d' ++ [(k : Int)], o2, true, k + 1, rfl, by go_num, hlt, by rw [List.length_append, List.flatMap_append]; exact own4, q4.out, ap4.out, HST.out, fun e => absurd e (by simp), fun _ => by rw [List.length_append, HDL.out]; rfl, (hb2'.alloc (by omega) _).trans hb4⟩
              case measure => simp [intOf]; omega
            · have hup : UpTo o' (k + 1) := (hbf.out rfl).1.succ hk2 (by have := hst.out.ord.ne (i := k) (j := k + 1) hk1 hk2 (by omega); omega)
              have HUP := Lib.hid hup
              have HDL := Lib.hid (hbf.out rfl).2
              have hgt : ¬ o'[k] > o'[k + 1] := hx
              have hgt' : decide (o'[k] > o'[k + 1]) = false := decide_eq_false hgt
              clear hup hbf
              generalize o'[k + 1] = y at *
              generalize o'[k] = x at *
              clear hk1 hk2
              go_wp2_with fail
              go_quiet (fail)
              rename_i nq
              go_wp2_with fail
              go_roundw
              case rel => exact ⟨d', o', false, k + 1, rfl, by go_num, hlt, own_below hp (below_drewN (Below.refl _ _) _), own_below hq (below_drewN (Below.refl _ _) _), hap, hst, fun _ => ⟨HUP.out, HDL.out⟩, fun e => absurd e (by simp), below_drewN hb _⟩
              case measure => simp [intOf]; omega
          · have hlti : ¬ (k : Int) + 1 < (m : Int) := by omega
            have hi0 : inv o' = 0 := (hbf.out rfl).1.all (by rw [Hol.out]; omega)
            have HI0 := Lib.hid hi0
            have hdl : d'.length = d.length := (hbf.out rfl).2
            have HDL := Lib.hid hdl
            clear hi0 hdl hbf hbt
            go_wp2_with fail
            go_roundw
            case rel => exact ⟨d', o', false, rfl, hp, hq, hap, hst, fun _ => HI0.out, hb⟩
            case measure => have := HDL.out; simp [slLen, boolN]; omega
        · have HDL := Lib.hid (hbt.out rfl)
          clear hbt hbf
          by_cases hlt : k + 1 < m
          · have hlti : (k : Int) + 1 < (m : Int) := by omega
            go_wp2_with fail
            go_roundw
            case rel => exact ⟨d', o', true, rfl, hp, hq, hap, hst, fun e => absurd e (by simp), hb⟩
            case measure => have := HDL.out; simp [slLen, boolN]; omega
          · have hlti : ¬ (k : Int) + 1 < (m : Int) := by omega
            go_wp2_with fail
            go_roundw
            case rel => exact ⟨d', o', true, rfl, hp, hq, hap, hst, fun e => absurd e (by simp), hb⟩
            case measure => have := HDL.out; simp [slLen, boolN]; omega
set_option maxHeartbeats 4000000 in
set_option maxRecDepth 100000 in
theorem implBringHome_any (n : Int) (v : Value) (cs : List RCross) (w : World) (h : RdL cCross 2 w v cs) :
    Calls Try.prog 103 #[.int .i64 n, v] w fun e w' => ∃ v', e = .returned (.tuple #[v', .bool (crossesB n cs)]) ∧ w'.ownsRow w.heap.size 115 2 v' (homeL n cs).length ((homeL n cs).flatMap cCross) ∧ Below w.heap.size w w' := by
  have h0 := h
  obtain ⟨A, c, rfl, h1, h2⟩ := h.form
  obtain ⟨iX, hiX, hzX0, hzX1, hzX2⟩ := info_parts infoCross
  go_enter Try.func103, Try.ntmps103
  go_wp2_with fail
  refine twoB (implCrossesOk_any n _ cs _ h0) (fun w1 hq hb1 => ?_) (fun w1 hq hb1 => ?_)
  · obtain ⟨hn, hlen, hcs⟩ := crosses_len hq.out
    obtain ⟨m, rfl⟩ := Int.eq_ofNat_of_zero_le (show 0 ≤ n by omega)
    have hm : 1 ≤ m ∧ m ≤ 7 := by omega
    have hz1 := hb1.size
    have hownA := World.ownsRow_made (size := 2) (e := 115) w1 #[] 0 (Nat.le_refl _) (by simp [maxLen]) rfl
    have hb01 : Below w.heap.size w (w1.alloc (.cells #[] 115)) := hb1.alloc (by omega) _
    have hown1 := own_mono hownA hz1
    have hO := implOrderAfter_any (m : Int) _ cs (w1.alloc (.cells #[] 115)) (h0.below hb01)
    rw [ordR_t hq.out] at hO
    have HOrd := Lib.hid (IsOrd.order hcs)
    have HQ := Lib.hid hq.out
    have HH := Lib.hid (homeL_t hq.out)
    have Hm := Lib.hid hm
    clear hownA hb1 hq hcs hn
    go_wp2_with fail
    refine hO.mono ?_
    rintro e w2 ⟨v2, rfl, own2, hb2⟩
    have hr2 : RdL cInt 1 w2 v2 (orderF m cs) := RdS.of_own own2
    have hb02 : Below w.heap.size w w2 := bl_trans hb01 hb2
    have hz2 := hb2.size
    have hown2 := own_below hown1 hb2
    clear own2 hb2 hO hown1 hb01
    obtain ⟨A2, c2, rfl, _, _⟩ := hr2.form
    have hi49 := inv_49 HOrd.out Hm.out.2
    rw [← swapsF_len] at hi49
    go_wp2_with fail
    refine (implSorting_any m _ (orderF m cs) _ hr2 HOrd.out Hm.out).mono ?_
    rintro e w3 ⟨v3, rfl, own3, hb3⟩
    have hb03 : Below w.heap.size w w3 := bl_trans hb02 hb3
    have hz3 := hb3.size
    have hown3 := own_below hown2 hb3
    have hap3 := Lib.hid (apart_new own3 hown2 (Nat.le_refl _))
    have own3' := own_mono own3 (Nat.zero_le _)
    obtain ⟨sw, hsw⟩ : ∃ sw, swapsF (orderF m cs) = sw := ⟨_, rfl⟩
    rw [hsw] at own3' hi49
    have HH2 : Hid (homeL (m : Int) cs = wayL sw) := by rw [← hsw]; exact HH.out
    clear own3 hb3 hr2 hown2 hb02 HH hsw
    obtain ⟨A3, c3, rfl, _, _⟩ := (RdS.of_own own3').form
    go_wp2_with fail
    go_loopw [6, 8, 19] (fun p _ i wr => ∃ k : Nat, k ≤ sw.length ∧ i = .int .i64 k ∧ wr.ownsRow w.heap.size 115 2 p k ((wayL (sw.take k)).flatMap cCross) ∧ wr.ownsRow 0 3 1 (.slice A3 sw.length c3) sw.length (sw.flatMap cInt) ∧ Hid (Apart (.slice A3 sw.length c3) p) ∧ Below w.heap.size w wr) (fun _ _ i _ => sw.length - (intOf i).toNat)
    case atStart => exact ⟨0, Nat.zero_le _, rfl, hown3, own3', hap3, hb03⟩
    case round =>
      obtain ⟨k, hk, rfl, hp, hs, hap, hb⟩ := hrel
      clear hown3 own3' hap3 hb03
      have hz := hb.size
      obtain ⟨Ap, cp, rfl, _, _⟩ := (RdS.of_own hp).form
      by_cases hlt : k < sw.length
      · have hrs : RdL cInt 1 wr (.slice A3 sw.length c3) sw := RdS.of_own hs
        obtain ⟨g, off, rfl, hg, hc⟩ := hrs.cell cInt_len (by omega) hlt
        have k0 := hc 0 _ rfl
        simp only [Nat.add_zero, Nat.mul_one] at k0
        clear hc
        have Hw := Lib.hid (wayL_snoc sw hlt)
        generalize sw[k] = x at *
        go_wp2_with (at_builtin; refine wpList_appendB _ rfl (.tmp 23) (.tmp 26) _ rfl w.heap.size 115 iX _ 2 16 Try.underlying44 hiX hzX0 hzX1 hzX2 rfl (by omega) _ k ((wayL (sw.take k)).flatMap cCross) rfl (hp.alloc _) _ 1 [.int .i64 x, .bool true] rfl (rdS_new wr #[.int .i64 x, .bool true] _ 2 1 rfl (by simp [maxLen])) (by simp [Value.oneCell']) (by simp [maxLen]; omega) (by omega) (by simp; omega) ?_; intro v4 w4 own4 gr4 at4)
        obtain ⟨A4, c4, rfl, _, _⟩ := (RdS.of_own own4).form
        have hch := Chg.of_grown gr4
        have hb4 := below_own (hp.alloc _) gr4 (by simp; omega)
        have q4 := Lib.hid (own_chg (hs.alloc _) hch hap.out)
        have ap4 := Lib.hid (apart_grow (hs.alloc _) hap.out (Nat.le_refl _) at4)
        clear gr4 at4 hch
        go_wp2_with fail
        go_roundw
        case rel => exact ⟨k + 1, by omega, by go_num, by rw [Hw.out, List.flatMap_append]; exact own4, q4.out, ap4.out, (hb.alloc (by omega) _).trans hb4⟩
        case measure => simp [intOf]; omega
      · obtain rfl : k = sw.length := by omega
        rw [List.take_length] at hp
        go_wp2_with fail
        go_ret2
        rw [HQ.out, HH2.out, wayL_len]
        exact ⟨_, rfl, hp, hb⟩
  · go_wp2_with fail
    go_ret2
    rw [hq.out, homeL_f hq.out]
    exact ⟨_, rfl, World.ownsRow_nil _ _ _ _, hb1⟩
end Go.Proofs.Ytjbhlbcjljdjmaa
