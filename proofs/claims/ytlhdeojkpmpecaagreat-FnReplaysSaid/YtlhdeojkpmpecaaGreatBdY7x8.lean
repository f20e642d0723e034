/- Several texts in one: Contracts: the order after crossings, the exchanges that sort, the way home, of the program. Written by a program (gen_y7.py). Contracts: a company goes home (both). Written by a program (gen_k16.py). Own rows of rows: a cell of a row is read and written; a literal row is appended. The twists of the program: the closure that adds, follow with it, twists. Written by a program (gen_z2.py). The pairs that are wound, full turns, unwinding, of the program. Written by a program (gen_z3.py). The pairs of crossings, the table of twists, the pairs that are wound, unwinding, of the reference. Written by a program (gen_z3.py). Contracts: why a company does not play (both). Written by a program (gen_k18.py). Contracts: GiveShow. Written by a program (gen_k19.py). -/
import Derived.BigRegion
import Derived.StillTailTactics
import Derived.Deep.DeepCutAuto
import Derived.BigQuiet
import Derived.Test.YtlhdeojkpmpecaaGreatBdY5x7
import Derived.Test.YtlhdeojkpmpecaaGreatKC
import Derived.Test.YtlhdeojkpmpecaaGreatBdK7x14
import Derived.Test.YtlhdeojkpmpecaaGreatBdI7x12
import Derived.Test.YtlhdeojkpmpecaaGreatBdK3x9
import Derived.Test.YtlhdeojkpmpecaaGreatBdK1x7
import Derived.Test.YtlhdeojkpmpecaaGreatY2
import Derived.Test.YtlhdeojkpmpecaaGreatBdM5x6
namespace Go.Proofs.YtlhdeojkpmpecaaGreat
open Go.RowKit
theorem orderAfter1_any (a x y : Int) (f : Bool) (w : World) :
    Calls Tryz.prog 167 #[.agg #[.int .i64 a, .bool f], .int .i64 x, .int .i64 y] w fun e w' => e = .returned (.tuple #[]) ∧ Below w.heap.size w w' := by
  go_enter Tryz.func167, Tryz.ntmps167
  go_wp2_with fail
  go_end0
  exact ⟨rfl, by (repeat' (first | exact Below.refl _ _ | refine qS ?_ _ | refine qA ?_ _ | refine qD ?_ | refine qN ?_ _ | refine qT ?_ (by assumption)))⟩
set_option maxHeartbeats 8000000 in
set_option maxRecDepth 100000 in
theorem followNo_any (m : Nat) (v : Value) (cs : List RCross) (w : World) (h : RdL cCross 2 w v cs) (hm : 1 ≤ m ∧ m ≤ 7) (hlen : cs.length ≤ 40) (hcs : ∀ c ∈ cs, 0 ≤ c.1 ∧ c.1 ≤ (m : Int) - 2) :
    Calls Tryz.prog 166 #[.int .i64 m, v, .func (.func 167) #[] #[]] w fun e w' => ∃ v', e = .returned v' ∧ w'.ownsRow w.heap.size 3 1 v' (orderF m cs).length ((orderF m cs).flatMap cInt) ∧ Below w.heap.size w w' := by
  have h0 := h
  obtain ⟨A, c, rfl, h1, h2⟩ := h.form
  go_enter Tryz.func166, Tryz.ntmps166
  go_wp2_with fail
  refine (upTo_any m w (by omega)).mono ?_
  rintro e w1 ⟨v1, rfl, own1, hb1⟩
  have hm0 : 0 < (upN m).length := by rw [upN_len]; omega
  obtain ⟨go, co, rfl⟩ := own_form own1 hm0
  have hgo := own1.lt go rfl
  have hz1 := hb1.size
  rw [upN_len] at own1
  rw [upN_len]
  clear hm0
  have own1' : w1.ownsRow w.heap.size 3 1 (.slice (some ⟨go, 0, none⟩) m co) m ((orderF m (cs.take 0)).flatMap cInt) := own1
  have Hcs := Lib.hid hcs
  clear own1 hcs
  go_wp2_with fail
  go_loopw [9, 14] (fun _ i wr => ∃ k : Nat, k ≤ cs.length ∧ i = .int .i64 k ∧ wr.ownsRow w.heap.size 3 1 (.slice (some ⟨go, 0, none⟩) m co) m ((orderF m (cs.take k)).flatMap cInt) ∧ Below w.heap.size w wr) (fun _ i _ => cs.length - (intOf i).toNat)
  case atStart => exact ⟨0, Nat.zero_le _, rfl, own1', hb1⟩
  case round =>
    obtain ⟨k, hk, rfl, hown, hb⟩ := hrel
    clear own1' hb1
    by_cases hlt : k < cs.length
    · have hr := h0.below hb
      obtain ⟨g, off, rfl, hg, hc⟩ := hr.cell cCross_len (by omega) hlt
      have k0 := hc 0 _ rfl
      have k1 := hc 1 _ rfl
      simp only [Nat.add_zero] at k0 k1
      clear hc
      have hcb := Hcs.out _ (List.getElem_mem hlt)
      have hsn := orderF_snoc m hlt
      have hord : IsOrd m (orderF m (cs.take k)) := IsOrd.order (fun c hc => Hcs.out c (List.mem_of_mem_take hc))
      have hol := hord.len
      obtain ⟨a, ha⟩ := Int.eq_ofNat_of_zero_le hcb.1
      rw [ha] at k0 hcb
      rw [ha, show ((a : Nat) : Int).toNat = a from rfl] at hsn
      have ha1 : a + 1 < m := by omega
      generalize cs[k] = cc at *
      obtain ⟨ca, f⟩ := cc
      simp only at ha k0 k1
      subst ha
      generalize orderF m (cs.take k) = o at *
      have hal : a + 1 < o.length := by omega
      have Hsn : Hid (orderF m (cs.take (k + 1)) = (o.set a o[a + 1]).set (a + 1) o[a]) := by rw [← swapL_eq hal]; exact hsn
      clear hsn hord
      go_upto_region 5 with (fail)
      have Lo := Loc.new wr #[.int .i64 a, .bool f] 85
      have hgow := (hown.lt go rfl).2
      have hown2 := hown.alloc (.cells #[.int .i64 a, .bool f] 85)
      have hb2 := hb.alloc (o := (.cells #[.int .i64 a, .bool f] 85)) hb.size
      obtain ⟨gb, hgb⟩ : ∃ g, wr.heap.size = g := ⟨_, rfl⟩
      have hgbW : gb < (wr.alloc (.cells #[.int .i64 a, .bool f] 85)).heap.size := by simp; omega
      have hwgb : w.heap.size ≤ gb := by have := hb.size; omega
      rw [hgb] at Lo hgow
      clear hown hr k0 k1
      generalize wr.alloc (.cells #[.int .i64 a, .bool f] 85) = W at *
      rw [hgb]
      clear hgb hb hg
      have b0 := (Lo 0 _ rfl).1
      have b1 := (Lo 1 _ rfl).1
      have q1 := row_cell hown2 (k := a) (by omega)
      have q2 := row_cell hown2 (k := a + 1) hal
      have i1 : (a : Int) < (m : Int) := by omega
      have i2 : (a : Int) + 1 < (m : Int) := by omega
      have hw := IntWalk.i64_in ((a : Int) + 1) (by omega)
      have e1 : ((a : Int) + 1).toNat = a + 1 := by omega
      have ia : a < m := by omega
      have i4 : (0 : Int) ≤ (a : Int) + 1 := by omega
      have i5 : ¬ (a : Int) + 1 < 0 := by omega
      go_still_tail 13, (by kernel_rfl)
      clear i1 i2 i4 i5
      change wpList _ _ _ _ _ (World.drew W)
      have Hok := Lib.hid (show a < o.length ∧ a + 1 < o.length from ⟨by omega, hal⟩)
      go_wp2_with (go_at_call 167; refine (orderAfter1_any _ _ _ _ _).mono ?_; rintro e w2 ⟨rfl, hb3⟩)
      have hb3' : Below W.heap.size W w2 := bl_trans ((Below.refl _ _).drew) hb3
      have hown3 := own_below hown2 hb3'
      have hb4 : Below w.heap.size w w2 := bl_trans hb2 hb3'
      replace Lo := Lo.below hb3'
      clear b0 b1 q1 q2 hown2 hb2 hb3 hb3' hgbW
      have b0 := (Lo 0 _ rfl).1
      have q1 := row_cell hown3 (k := a) (by omega)
      have q2 := row_cell hown3 (k := a + 1) hal
      have fz1 := hown3.frozenAt a
      have fz2 := hown3.frozenAt (a + 1)
      have ne1 : ¬ go = gb := by omega
      have ne2 : ¬ gb = go := by omega
      have hz4 := hb4.size
      have hgz : go < w2.heap.size := (hown3.lt go rfl).2
      have HB := Lib.hid (show Below w.heap.size w ((w2.setCell ⟨go, a, none⟩ (.int .i64 o[a + 1])).setCell ⟨go, a + 1, none⟩ (.int .i64 o[a])) from (hb4.setCell hgo.1 _).setCell hgo.1 _)
      have H3 := Lib.hid (row_stored (row_stored hown3 a o[a + 1]) (a + 1) o[a])
      rw [← Hsn.out] at H3
      clear Hsn hown3 hb4 Lo
      generalize o[a + 1] = y at *
      generalize o[a] = x at *
      clear hol hal
      go_region
      go_wp2_with fail
      go_roundw
      case rel => exact ⟨k + 1, by omega, by go_num, H3.out, HB.out.drew⟩
      case measure => simp [intOf]; omega
    · obtain rfl : k = cs.length := by omega
      rw [List.take_length] at hown
      go_wp2_with fail
      go_ret
      rw [orderF_len]
      exact ⟨_, rfl, hown, hb⟩
set_option maxHeartbeats 2000000 in
theorem implOrderAfter_any (n : Int) (v : Value) (cs : List RCross) (w : World) (h : RdL cCross 2 w v cs) :
    Calls Tryz.prog 144 #[.int .i64 n, v] w fun e w' => ∃ v', e = .returned v' ∧ w'.ownsRow w.heap.size 3 1 v' (ordR n cs).length ((ordR n cs).flatMap cInt) ∧ Below w.heap.size w w' := by
  have h0 := h
  obtain ⟨A, c, rfl, h1, h2⟩ := h.form
  go_enter Tryz.func144, Tryz.ntmps144
  go_wp2_with fail
  refine twoB (implCrossesOk_any n _ cs _ h0) (fun w1 hq hb1 => ?_) (fun w1 hq hb1 => ?_)
  · obtain ⟨hn, hlen, hcs⟩ := crosses_len hq.out
    obtain ⟨m, rfl⟩ := Int.eq_ofNat_of_zero_le (show 0 ≤ n by omega)
    have hm : 1 ≤ m ∧ m ≤ 7 := by omega
    have HQ := Lib.hid hq.out
    have Hc := Lib.hid hcs
    clear hq hcs
    go_wp2_with fail
    refine (followNo_any m _ cs _ (h0.below hb1) hm (by omega) Hc.out).mono ?_
    rintro e w2 ⟨v2, rfl, own2, hb2⟩
    go_wp2_with fail
    go_ret
    rw [ordR_t HQ.out]
    exact ⟨_, rfl, own_mono own2 hb1.size, bl_trans hb1 hb2⟩
  · go_wp2_with fail
    go_ret
    rw [ordR_f hq.out]
    exact ⟨_, rfl, World.ownsRow_nil _ _ _ _, hb1⟩
theorem ext_getD' {a b : List Int} (hl : a.length = b.length) (h : ∀ j, j < a.length → a.getD j 0 = b.getD j 0) : a = b := by
  apply List.ext_getElem hl
  intro j h1 h2
  have := h j h1
  rwa [List.getD_eq_getElem?_getD, List.getElem?_eq_getElem h1, List.getD_eq_getElem?_getD, List.getElem?_eq_getElem h2] at this
set_option maxHeartbeats 2000000 in
set_option maxRecDepth 100000 in
theorem implSameInts_any (v v' : Value) (a b : List Int) (w : World) (h : RdL cInt 1 w v a) (hq : RdL cInt 1 w v' b) :
    Calls Tryz.prog 74 #[v, v'] w fun e w' => e = .returned (.bool (decide (a = b))) ∧ Below w.heap.size w w' := by
  obtain ⟨A, c, rfl, h1, h2⟩ := h.form
  obtain ⟨A', c', rfl, h1', h2'⟩ := hq.form
  by_cases hl : a.length = b.length
  · go_enter Tryz.func74, Tryz.ntmps74
    go_wp2_with fail
    go_loopw [5, 13] (fun _ i wr => ∃ k : Nat, k ≤ a.length ∧ i = .int .i64 k ∧ Hid (∀ j, j < k → a.getD j 0 = b.getD j 0) ∧ Below w.heap.size w wr) (fun _ i _ => a.length - (intOf i).toNat)
    case atStart => exact ⟨0, Nat.zero_le _, rfl, fun j hj => absurd hj (by omega), by (repeat' (first | exact Below.refl _ _ | refine qS ?_ _ | refine qA ?_ _ | refine qD ?_ | refine qN ?_ _ | refine qT ?_ (by assumption)))⟩
    case round =>
      obtain ⟨k, hk, rfl, hall, hb⟩ := hrel
      have hz := hb.size
      by_cases hlt : k < a.length
      · have hltb : k < b.length := by omega
        obtain ⟨g, off, rfl, hg, hc⟩ := (h.below hb).cell cInt_len (by omega) hlt
        have k0 := hc 0 _ rfl
        obtain ⟨g', off', rfl, hg', hc'⟩ := (hq.below hb).cell cInt_len (by omega) hltb
        have k2 := hc' 0 _ rfl
        simp only [Nat.add_zero, Nat.mul_one] at k0 k2
        clear hc hc'
        by_cases he : a[k] = b[k]
        · have he' : (a[k] != b[k]) = false := by rw [bne_eq_false_iff_eq]; exact he
          have He := Lib.hid he
          clear he
          go_wp2_with fail
          go_quiet (fail)
          go_wp2_with fail
          go_roundw
          case rel => exact ⟨k + 1, by omega, by go_num, (fun j hj => by
            rcases Nat.lt_succ_iff_lt_or_eq.1 hj with h | rfl
            · exact hall.out j h
            · rw [getD_get a j hlt, getD_get b j hltb]; exact He.out), by (repeat' (first | exact Below.refl _ _ | refine qS ?_ _ | refine qA ?_ _ | refine qD ?_ | refine qN ?_ _ | refine qT ?_ (by assumption)))⟩
          case measure => simp [intOf]; omega
        · have he' : (a[k] != b[k]) = true := by rw [bne_iff_ne]; exact he
          have He := Lib.hid he
          clear he
          go_wp2_with fail
          go_quiet (fail)
          go_wp2_with fail
          go_ret
          exact ⟨ret_bool (decide_eq_false (fun e => He.out (by subst e; rfl))).symm, by (repeat' (first | exact Below.refl _ _ | refine qS ?_ _ | refine qA ?_ _ | refine qD ?_ | refine qN ?_ _ | refine qT ?_ (by assumption)))⟩
      · go_wp2_with fail
        go_ret
        exact ⟨ret_bool (decide_eq_true (ext_getD' hl (fun j hj => hall.out j (by omega)))).symm, by (repeat' (first | exact Below.refl _ _ | refine qS ?_ _ | refine qA ?_ _ | refine qD ?_ | refine qN ?_ _ | refine qT ?_ (by assumption)))⟩
  · go_enter Tryz.func74, Tryz.ntmps74
    go_wp2_with fail
    go_ret
    exact ⟨ret_bool (decide_eq_false (fun e => hl (by rw [e]))).symm, by (repeat' (first | exact Below.refl _ _ | refine qS ?_ _ | refine qA ?_ _ | refine qD ?_ | refine qN ?_ _ | refine qT ?_ (by assumption)))⟩
set_option maxHeartbeats 2000000 in
theorem implIsHome_any (m : Nat) (v : Value) (cs : List RCross) (w : World) (h : RdL cCross 2 w v cs) (hq : crossesB m cs = true) :
    Calls Tryz.prog 102 #[.int .i64 m, v] w fun e w' => e = .returned (.bool (decide (orderF m cs = upN m))) ∧ Below w.heap.size w w' := by
  have h0 := h
  obtain ⟨A, c, rfl, h1, h2⟩ := h.form
  obtain ⟨hn, hlen, hcs⟩ := crosses_len hq
  have hC := implOrderAfter_any (m : Int) _ cs w h0
  rw [ordR_t hq] at hC
  have hm : m ≤ 100000 := by omega
  clear hcs hq
  go_enter Tryz.func102, Tryz.ntmps102
  go_wp2_with fail
  refine hC.mono ?_
  rintro e w1 ⟨v1, rfl, own1, hb1⟩
  have hr1 : RdL cInt 1 w1 v1 (orderF m cs) := RdS.of_own own1
  obtain ⟨A1, c1, rfl, _, _⟩ := hr1.form
  clear own1 hC
  go_wp2_with fail
  refine (upTo_any m _ hm).mono ?_
  rintro e w2 ⟨v2, rfl, own2, hb2⟩
  have hr2 : RdL cInt 1 w2 v2 (upN m) := RdS.of_own own2
  obtain ⟨A2, c2, rfl, _, _⟩ := hr2.form
  have hr3 := hr1.below hb2
  clear own2 hr1
  go_wp2_with fail
  refine (implSameInts_any _ _ _ _ _ hr3 hr2).mono ?_
  rintro e w3 ⟨rfl, hb3⟩
  go_wp2_with fail
  go_ret
  exact ⟨rfl, bl_trans (bl_trans hb1 hb2) hb3⟩
set_option maxHeartbeats 8000000 in
set_option maxRecDepth 100000 in
theorem implSorting_any (m : Nat) (v : Value) (l : List Int) (w : World) (h : RdL cInt 1 w v l) (hord : IsOrd m l) (hm : 1 ≤ m ∧ m ≤ 7) :
    Calls Tryz.prog 162 #[v] w fun e w' => ∃ v', e = .returned v' ∧ w'.ownsRow w.heap.size 3 1 v' (swapsF l).length ((swapsF l).flatMap cInt) ∧ Below w.heap.size w w' := by
  have h0 := h
  have hl : l.length = m := hord.len
  obtain ⟨A, c, rfl, h1, h2⟩ := h.form
  obtain ⟨iI, hiI, hzI0, hzI1, hzI2⟩ := info_parts infoInt
  have hi49 := inv_49 hord hm.2
  have HS0 : Hid (SortSt m l [] l) := ⟨hord, rfl⟩
  have hO := implOrderOk_any _ l w h0
  rw [hord.okB hm] at hO
  clear hord
  rw [hl] at h0 ⊢
  have hlm : l.length ≤ 1048576 := by omega
  have Hl := Lib.hid hl
  clear hl h
  go_enter Tryz.func162, Tryz.ntmps162
  go_wp2_with fail
  rw [Hl.out] at hO
  refine hO.mono ?_
  rintro e w1 ⟨rfl, hb1⟩
  have h3 : RdL cInt 1 w1 (.slice A l.length c) l := by rw [Hl.out]; exact h0.below hb1
  clear hO
  have hC := copyOf_any _ l w1 h3 hlm
  rw [Hl.out] at hC
  clear h3
  go_wp2_with fail
  refine hC.mono ?_
  rintro e w2 ⟨v2, rfl, own2, hb2⟩
  have hz1 := hb1.size
  have hz2 := hb2.size
  obtain ⟨go, co, rfl⟩ := own_form own2 (by omega)
  have hgo := own2.lt go rfl
  have hb02 : Below w.heap.size w w2 := bl_trans hb1 hb2
  have hownA := own_mono (World.ownsRow_made (size := 1) (e := 3) w2 #[] 0 (Nat.le_refl _) (by simp [maxLen]) rfl) (show w.heap.size ≤ w2.heap.size by omega)
  have own3 := own_mono (own2.alloc (.cells #[] 3)) hz1
  have hbA : Below w.heap.size w (w2.alloc (.cells #[] 3)) := hb02.alloc (by omega) _
  have hapA : Hid (Apart (.slice (some ⟨go, 0, none⟩) m co) (.slice (some ⟨w2.heap.size, 0, none⟩) 0 0)) := fun b hb hb' => by
    simp [Value.ownBlock] at hb hb'
    omega
  have hgo' : w.heap.size ≤ go := by omega
  clear hC hb1 hb2 own2 hb02
  go_wp2_with fail
  go_loopw [4, 5, 6] (fun p ag _ wr => ∃ (d o : List Int) (b : Bool), ag = .bool b ∧ wr.ownsRow w.heap.size 3 1 p d.length (d.flatMap cInt) ∧ wr.ownsRow w.heap.size 3 1 (.slice (some ⟨go, 0, none⟩) m co) m (o.flatMap cInt) ∧ Hid (Apart (.slice (some ⟨go, 0, none⟩) m co) p) ∧ Hid (SortSt m l d o) ∧ Hid (b = false → inv o = 0) ∧ Below w.heap.size w wr) (fun p ag _ _ => 49 - slLen p + boolN ag)
  case atStart => exact ⟨[], l, true, rfl, hownA, own3, hapA, HS0, fun e => absurd e (by simp), hbA⟩
  case round =>
    obtain ⟨d, o, b, rfl, hp, hq, hap, hst, hb0, hb⟩ := hrel
    clear hownA own3 hapA HS0 hbA
    obtain ⟨Ap, cp, rfl, _, _⟩ := (RdS.of_own hp).form
    cases b
    · go_wp2_with fail
      go_ret
      rw [hst.out.end_ (by simpa using hb0.out)]
      exact ⟨_, rfl, hp, hb⟩
    · clear hb0
      go_wp2_with fail
      go_loopw [4, 5, 6] (fun p ag i wi => ∃ (d' o' : List Int) (b' : Bool) (k : Nat), ag = .bool b' ∧ i = .int .i64 k ∧ k < m ∧ wi.ownsRow w.heap.size 3 1 p d'.length (d'.flatMap cInt) ∧ wi.ownsRow w.heap.size 3 1 (.slice (some ⟨go, 0, none⟩) m co) m (o'.flatMap cInt) ∧ Hid (Apart (.slice (some ⟨go, 0, none⟩) m co) p) ∧ Hid (SortSt m l d' o') ∧ Hid (b' = false → UpTo o' k ∧ d'.length = d.length) ∧ Hid (b' = true → d'.length = d.length + 1) ∧ Below w.heap.size w wi) (fun _ _ i _ => 8 - (intOf i).toNat)
      case atStart => exact ⟨d, o, false, 0, rfl, rfl, by omega, hp, hq, hap, hst, fun _ => ⟨UpTo.zero o, rfl⟩, fun e => absurd e (by simp), hb⟩
      case round =>
        obtain ⟨d', o', b', k, rfl, rfl, hk, hp, hq, hap, hst, hbf, hbt, hb⟩ := hrel
        obtain ⟨Ap, cp, rfl, _, _⟩ := (RdS.of_own hp).form
        have Hol := Lib.hid hst.out.ord.len
        have hlen := hst.out.len
        have hd49 : d'.length ≤ 49 := by omega
        have Hlen := Lib.hid hlen
        clear hlen
        cases b'
        · by_cases hlt : k + 1 < m
          · have hlti : (k : Int) + 1 < (m : Int) := by omega
            have hk1 : k < o'.length := by rw [Hol.out]; omega
            have hk2 : k + 1 < o'.length := by rw [Hol.out]; omega
            have q1 := row_cell hq hk1
            have q2 := row_cell hq hk2
            have hz := hb.size
            have hgw := (hq.lt go rfl).2
            have e1 : ((k : Int) + 1).toNat = k + 1 := by omega
            have hw := IntWalk.i64_in ((k : Int) + 1) (by omega)
            by_cases hx : o'[k + 1] < o'[k]
            · have hfd : FirstDesc o' k := (hbf.out rfl).1.first hst.out.ord hk2 (by omega)
              have hinv := inv_swap o' k hk2 hx
              have hd48 : d'.length < 49 := by have := Hlen.out; omega
              have HST : Hid (SortSt m l (d' ++ [(k : Int)]) (swapL o' k)) := hst.out.step hfd
              have HDL := Lib.hid (hbf.out rfl).2
              have Hsw := Lib.hid (swapL_eq hk2)
              have hgt : o'[k] > o'[k + 1] := hx
              have HOK := Lib.hid (show k < o'.length ∧ k + 1 < o'.length from ⟨hk1, hk2⟩)
              clear hfd hinv hbf hbt hst Hol
              go_wp2_with fail
              go_quiet (fail)
              rename_i nq
              go_upto_region 11 with (fail)
              have hdr := below_drewN (Below.refl wr.heap.size wr) nq
              have hpW := own_below hp hdr
              have hqW := own_below hq hdr
              have hbW := below_drewN hb nq
              have hgW : go < (wr.drewN nq).heap.size := by simp; exact hgw
              have hzW : w.heap.size ≤ (wr.drewN nq).heap.size := by simp; omega
              clear q1 q2 hp hq hb hdr
              generalize wr.drewN nq = W at *
              have q1 := row_cell hqW HOK.out.1
              have q2 := row_cell hqW HOK.out.2
              have fz1 := hqW.frozenAt k
              have fz2 := hqW.frozenAt (k + 1)
              have H3 := Lib.hid (row_stored (row_stored hqW k o'[k + 1]) (k + 1) o'[k])
              rw [← Hsw.out] at H3
              have HB := Lib.hid (show Below w.heap.size w ((W.setCell ⟨go, k, none⟩ (.int .i64 o'[k + 1])).setCell ⟨go, k + 1, none⟩ (.int .i64 o'[k])) from (hbW.setCell hgo' _).setCell hgo' _)
              have HP := Lib.hid (own_chg hpW (chg_set (chg_set (o := k) (u := .int .i64 o'[k + 1]) (Chg.refl [go] W) (by simp)) (by simp) : Chg [go] W ((W.setCell ⟨go, k, none⟩ (.int .i64 o'[k + 1])).setCell ⟨go, k + 1, none⟩ (.int .i64 o'[k]))) (fun x hx hx' => by simp at hx'; subst hx'; exact hap.out _ (by simp [Value.ownBlock]) hx))
              have hzS : ((W.setCell ⟨go, k, none⟩ (.int .i64 o'[k + 1])).setCell ⟨go, k + 1, none⟩ (.int .i64 o'[k])).heap.size = W.heap.size := by simp
              have HZ := Lib.hid hzS
              clear hpW hqW hbW Hsw hzS
              generalize swapL o' k = o2 at *
              generalize o'[k + 1] = y at *
              generalize o'[k] = x at *
              clear hk1 hk2 HOK
              go_region
              have hp2 := HP.out
              have hq2 := H3.out
              have hz2 := HZ.out
              have hb2 := HB.out
              clear HP H3 HZ HB fz1 fz2 q1 q2
              generalize ((W.setCell ⟨go, k, none⟩ (.int .i64 y)).setCell ⟨go, k + 1, none⟩ (.int .i64 x)) = V at *
              have hp2' : V.drew.ownsRow w.heap.size 3 1 (.slice Ap d'.length cp) d'.length (d'.flatMap cInt) := hp2
              have hq2' : V.drew.ownsRow w.heap.size 3 1 (.slice (some ⟨go, 0, none⟩) m co) m (o2.flatMap cInt) := hq2
              have hb2' : Below w.heap.size w V.drew := hb2.drew
              have hz2' : w.heap.size ≤ V.drew.heap.size := by show w.heap.size ≤ V.heap.size; omega
              clear hp2 hq2 hb2 hz2
              generalize V.drew = V' at *
              go_wp2_with (at_builtin; refine wpList_appendB _ rfl (.tmp 51) (.tmp 53) _ rfl w.heap.size 3 iI _ 1 8 Tryz.underlying26 hiI hzI0 hzI1 hzI2 rfl (by omega) _ d'.length (d'.flatMap cInt) rfl (hp2'.alloc _) _ 1 [.int .i64 k] rfl (rdS_new V' #[.int .i64 k] _ 1 1 rfl (by simp [maxLen])) (by simp [Value.oneCell']) (by simp [maxLen]; omega) (by omega) (by simp; omega) ?_; intro v4 w4 own4 gr4 at4)
              obtain ⟨A4, c4, rfl, _, _⟩ := (RdS.of_own own4).form
              have hch := Chg.of_grown gr4
              have hb4 := below_own (hp2'.alloc _) gr4 (by simp; omega)
              have q4 := Lib.hid (own_chg (hq2'.alloc _) hch hap.out)
              have ap4 := Lib.hid (apart_grow (hq2'.alloc _) hap.out (Nat.le_refl _) at4)
              clear gr4 at4 hch hp2' hq2'
              go_wp2_with fail
              go_roundw
              case rel => exact ⟨d' ++ [(k : Int)], o2, true, k + 1, rfl, by go_num, hlt, by rw [List.length_append, List.flatMap_append]; exact own4, q4.out, ap4.out, HST.out, fun e => absurd e (by simp), fun _ => by rw [List.length_append, HDL.out]; rfl, (hb2'.alloc (by omega) _).trans hb4⟩
              case measure => simp [intOf]; omega
            · have hup : UpTo o' (k + 1) := (hbf.out rfl).1.succ hk2 (by have := hst.out.ord.ne (i := k) (j := k + 1) hk1 hk2 (by omega); omega)
              have HUP := Lib.hid hup
              have HDL := Lib.hid (hbf.out rfl).2
              have hgt : ¬ o'[k] > o'[k + 1] := hx
              have hgt' : decide (o'[k] > o'[k + 1]) = false := decide_eq_false hgt
              clear hup hbf
              generalize o'[k + 1] = y at *
              generalize o'[k] = x at *
              clear hk1 hk2
              go_wp2_with fail
              go_quiet (fail)
              rename_i nq
              go_wp2_with fail
              go_roundw
              case rel => exact ⟨d', o', false, k + 1, rfl, by go_num, hlt, own_below hp (below_drewN (Below.refl _ _) _), own_below hq (below_drewN (Below.refl _ _) _), hap, hst, fun _ => ⟨HUP.out, HDL.out⟩, fun e => absurd e (by simp), below_drewN hb _⟩
              case measure => simp [intOf]; omega
          · have hlti : ¬ (k : Int) + 1 < (m : Int) := by omega
            have hi0 : inv o' = 0 := (hbf.out rfl).1.all (by rw [Hol.out]; omega)
            have HI0 := Lib.hid hi0
            have hdl : d'.length = d.length := (hbf.out rfl).2
            have HDL := Lib.hid hdl
            clear hi0 hdl hbf hbt
            go_wp2_with fail
            go_roundw
            case rel => exact ⟨d', o', false, rfl, hp, hq, hap, hst, fun _ => HI0.out, hb⟩
            case measure => have := HDL.out; simp [slLen, boolN]; omega
        · have HDL := Lib.hid (hbt.out rfl)
          clear hbt hbf
          by_cases hlt : k + 1 < m
          · have hlti : (k : Int) + 1 < (m : Int) := by omega
            go_wp2_with fail
            go_roundw
            case rel => exact ⟨d', o', true, rfl, hp, hq, hap, hst, fun e => absurd e (by simp), hb⟩
            case measure => have := HDL.out; simp [slLen, boolN]; omega
          · have hlti : ¬ (k : Int) + 1 < (m : Int) := by omega
            go_wp2_with fail
            go_roundw
            case rel => exact ⟨d', o', true, rfl, hp, hq, hap, hst, fun e => absurd e (by simp), hb⟩
            case measure => have := HDL.out; simp [slLen, boolN]; omega
set_option maxHeartbeats 4000000 in
set_option maxRecDepth 100000 in
theorem implBringHome_any (n : Int) (v : Value) (cs : List RCross) (w : World) (h : RdL cCross 2 w v cs) :
    Calls Tryz.prog 136 #[.int .i64 n, v] w fun e w' => ∃ v', e = .returned (.tuple #[v', .bool (crossesB n cs)]) ∧ w'.ownsRow w.heap.size 85 2 v' (homeL n cs).length ((homeL n cs).flatMap cCross) ∧ Below w.heap.size w w' := by
  have h0 := h
  obtain ⟨A, c, rfl, h1, h2⟩ := h.form
  obtain ⟨iX, hiX, hzX0, hzX1, hzX2⟩ := info_parts infoCross
  go_enter Tryz.func136, Tryz.ntmps136
  go_wp2_with fail
  refine twoB (implCrossesOk_any n _ cs _ h0) (fun w1 hq hb1 => ?_) (fun w1 hq hb1 => ?_)
  · obtain ⟨hn, hlen, hcs⟩ := crosses_len hq.out
    obtain ⟨m, rfl⟩ := Int.eq_ofNat_of_zero_le (show 0 ≤ n by omega)
    have hm : 1 ≤ m ∧ m ≤ 7 := by omega
    have hz1 := hb1.size
    have hownA := World.ownsRow_made (size := 2) (e := 85) w1 #[] 0 (Nat.le_refl _) (by simp [maxLen]) rfl
    have hb01 : Below w.heap.size w (w1.alloc (.cells #[] 85)) := hb1.alloc (by omega) _
    have hown1 := own_mono hownA hz1
    have hO := implOrderAfter_any (m : Int) _ cs (w1.alloc (.cells #[] 85)) (h0.below hb01)
    rw [ordR_t hq.out] at hO
    have HOrd := Lib.hid (IsOrd.order hcs)
    have HQ := Lib.hid hq.out
    have HH := Lib.hid (homeL_t hq.out)
    have Hm := Lib.hid hm
    clear hownA hb1 hq hcs hn
    go_wp2_with fail
    refine hO.mono ?_
    rintro e w2 ⟨v2, rfl, own2, hb2⟩
    have hr2 : RdL cInt 1 w2 v2 (orderF m cs) := RdS.of_own own2
    have hb02 : Below w.heap.size w w2 := bl_trans hb01 hb2
    have hz2 := hb2.size
    have hown2 := own_below hown1 hb2
    clear own2 hb2 hO hown1 hb01
    obtain ⟨A2, c2, rfl, _, _⟩ := hr2.form
    have hi49 := inv_49 HOrd.out Hm.out.2
    rw [← swapsF_len] at hi49
    go_wp2_with fail
    refine (implSorting_any m _ (orderF m cs) _ hr2 HOrd.out Hm.out).mono ?_
    rintro e w3 ⟨v3, rfl, own3, hb3⟩
    have hb03 : Below w.heap.size w w3 := bl_trans hb02 hb3
    have hz3 := hb3.size
    have hown3 := own_below hown2 hb3
    have hap3 := Lib.hid (apart_new own3 hown2 (Nat.le_refl _))
    have own3' := own_mono own3 (Nat.zero_le _)
    obtain ⟨sw, hsw⟩ : ∃ sw, swapsF (orderF m cs) = sw := ⟨_, rfl⟩
    rw [hsw] at own3' hi49
    have HH2 : Hid (homeL (m : Int) cs = wayL sw) := by rw [← hsw]; exact HH.out
    clear own3 hb3 hr2 hown2 hb02 HH hsw
    obtain ⟨A3, c3, rfl, _, _⟩ := (RdS.of_own own3').form
    go_wp2_with fail
    go_loopw [6, 8, 19] (fun p _ i wr => ∃ k : Nat, k ≤ sw.length ∧ i = .int .i64 k ∧ wr.ownsRow w.heap.size 85 2 p k ((wayL (sw.take k)).flatMap cCross) ∧ wr.ownsRow 0 3 1 (.slice A3 sw.length c3) sw.length (sw.flatMap cInt) ∧ Hid (Apart (.slice A3 sw.length c3) p) ∧ Below w.heap.size w wr) (fun _ _ i _ => sw.length - (intOf i).toNat)
    case atStart => exact ⟨0, Nat.zero_le _, rfl, hown3, own3', hap3, hb03⟩
    case round =>
      obtain ⟨k, hk, rfl, hp, hs, hap, hb⟩ := hrel
      clear hown3 own3' hap3 hb03
      have hz := hb.size
      obtain ⟨Ap, cp, rfl, _, _⟩ := (RdS.of_own hp).form
      by_cases hlt : k < sw.length
      · have hrs : RdL cInt 1 wr (.slice A3 sw.length c3) sw := RdS.of_own hs
        obtain ⟨g, off, rfl, hg, hc⟩ := hrs.cell cInt_len (by omega) hlt
        have k0 := hc 0 _ rfl
        simp only [Nat.add_zero, Nat.mul_one] at k0
        clear hc
        have Hw := Lib.hid (wayL_snoc sw hlt)
        generalize sw[k] = x at *
        go_wp2_with (at_builtin; refine wpList_appendB _ rfl (.tmp 23) (.tmp 26) _ rfl w.heap.size 85 iX _ 2 16 Tryz.underlying32 hiX hzX0 hzX1 hzX2 rfl (by omega) _ k ((wayL (sw.take k)).flatMap cCross) rfl (hp.alloc _) _ 1 [.int .i64 x, .bool true] rfl (rdS_new wr #[.int .i64 x, .bool true] _ 2 1 rfl (by simp [maxLen])) (by simp [Value.oneCell']) (by simp [maxLen]; omega) (by omega) (by simp; omega) ?_; intro v4 w4 own4 gr4 at4)
        obtain ⟨A4, c4, rfl, _, _⟩ := (RdS.of_own own4).form
        have hch := Chg.of_grown gr4
        have hb4 := below_own (hp.alloc _) gr4 (by simp; omega)
        have q4 := Lib.hid (own_chg (hs.alloc _) hch hap.out)
        have ap4 := Lib.hid (apart_grow (hs.alloc _) hap.out (Nat.le_refl _) at4)
        clear gr4 at4 hch
        go_wp2_with fail
        go_roundw
        case rel => exact ⟨k + 1, by omega, by go_num, by rw [Hw.out, List.flatMap_append]; exact own4, q4.out, ap4.out, (hb.alloc (by omega) _).trans hb4⟩
        case measure => simp [intOf]; omega
      · obtain rfl : k = sw.length := by omega
        rw [List.take_length] at hp
        go_wp2_with fail
        go_ret2
        rw [HQ.out, HH2.out, wayL_len]
        exact ⟨_, rfl, hp, hb⟩
  · go_wp2_with fail
    go_ret2
    rw [hq.out, homeL_f hq.out]
    exact ⟨_, rfl, World.ownsRow_nil _ _ _ _, hb1⟩
open Go.RowKit
def goB (n : Int) (cs : List RCross) (pl : List RPl) : Bool := withB n cs pl (homeL n cs)
def goC (n : Int) (cs : List RCross) (pl : List RPl) : List RCross := withC n cs pl (homeL n cs)
theorem go_sz (n : Int) (cs : List RCross) (pl : List RPl) : szCompany (goC n cs pl) pl ≤ szCompany cs pl ∨ szCompany (goC n cs pl) pl ≤ 1000 := with_sz n cs pl _
set_option maxHeartbeats 8000000 in
set_option maxRecDepth 100000 in
theorem implGoHome_any (n : Int) (v1 v2 : Value) (cs : List RCross) (pl : List RPl) (w : World) (h : RdCompany w v1 v2 cs pl) (hsz : szCompany cs pl ≤ 1048576) :
  Calls Tryz.prog 90 #[.agg #[.int .i64 n, v1, v2]] w (RetCompany n (goB n cs pl) (goC n cs pl) pl w) := by
 obtain ⟨⟨A1, n1, rfl⟩, ⟨A2, n2, rfl⟩⟩ := h.forms
 unfold goB goC
 have hll := homeL_len n cs
 have HC : Hid (∀ (W : World) (v : Value), RdL cCross 2 W v cs → Calls Tryz.prog 136 #[.int .i64 n, v] W fun e w' => ∃ v', e = .returned (.tuple #[v', .bool (crossesB n cs)]) ∧ w'.ownsRow W.heap.size 85 2 v' (homeL n cs).length ((homeL n cs).flatMap cCross) ∧ Below W.heap.size W w') := fun W v hr => implBringHome_any n v cs W hr
 have HW : Hid (∀ (W : World) (vl v1 v2 : Value), RdCompany W v1 v2 cs pl → RdL cCross 2 W vl (homeL n cs) → Calls Tryz.prog 135 #[.agg #[.int .i64 n, v1, v2], vl] W (RetCompany n (withB n cs pl (homeL n cs)) (withC n cs pl (homeL n cs)) pl W)) := fun W vl v1 v2 h1 h2 => implWith_any n v1 v2 vl cs pl (homeL n cs) W h1 h2 (by omega) hsz
 generalize homeL n cs = hl at *
 generalize withB n cs pl hl = ok at *
 generalize withC n cs pl hl = cs' at *
 go_enter Tryz.func90, Tryz.ntmps90
 go_wp2_with fail
 refine (HC.out _ _ (h.below (by (repeat' (with_reducible first | exact Below.refl _ _ | assumption | refine qS ?_ _ | refine qA ?_ _ | refine qD ?_ | refine qN ?_ _)))).1).mono ?_
 rintro e W1 ⟨vl, rfl, ownl, q⟩
 have hvl : RdL cCross 2 W1 vl hl := RdS.of_own ownl
 clear ownl
 generalize crossesB n cs = okh at *
 obtain ⟨Al, cl, rfl, _, _⟩ := hvl.form
 have Lc : Loc W1 (w.heap.size) [.int .i64 n, .slice A1 cs.length n1, .slice A2 pl.length n2] := by have := ((Loc.new w #[.int .i64 n, .slice A1 cs.length n1, .slice A2 pl.length n2] 35).alloc _).below q; simpa using this
 have Lr : Loc W1 (w.heap.size + 1) [.int .i64 0, .slice none 0 0, .slice none 0 0] := by have := (Loc.new (w.alloc (.cells #[.int .i64 n, .slice A1 cs.length n1, .slice A2 pl.length n2] 35)) #[.int .i64 0, .slice none 0 0, .slice none 0 0] 35).below q; simpa using this
 have hb : Below w.heap.size w W1 := Below.trans (by (repeat' (with_reducible first | exact Below.refl _ _ | assumption | refine qS ?_ _ | refine qA ?_ _ | refine qD ?_ | refine qN ?_ _))) (q.mono (by simp <;> omega))
 have hz0 : w.heap.size + 1 + 1 ≤ W1.heap.size := by have := q.size; simp at this; omega
 clear q
 have c0 := (Lc 0 _ rfl).1
 have c1 := (Lc 1 _ rfl).1
 have c2 := (Lc 2 _ rfl).1
 go_wp2_with fail
 refine (HW.out _ _ _ _ (h.below hb) hvl).mono ?_
 rintro e W2 ⟨x1, x2, S, rfl, ow, f1, q⟩
 clear c0 c1 c2
 obtain ⟨⟨B1, k1, rfl⟩, ⟨B2, k2, rfl⟩⟩ := ow.rd.forms
 clear hvl
 have hzq : W1.heap.size ≤ W2.heap.size := by have := q.size; (try simp at this); omega
 replace Lc := Lc.below q
 replace Lr := Lr.below q
 replace hb : Below w.heap.size w W2 := hb.trans (q.mono hb.size)
 have hlow : W1.heap.size ≤ W1.heap.size := by first | exact Nat.le_refl _ | (simp; done) | (simp; omega) | omega
 have FK := Lib.hid (fresh_mono f1 hlow (Nat.le_refl _))
 have DK : Hid (∀ x ∈ S, x ∉ [w.heap.size, w.heap.size + 1]) := (fun x hx => by have := (FK.out.2 x hx).1; simp; omega)
 have OK := Lib.hid ow
 clear ow f1 hlow
 clear q
 have r0 := (Lr 0 _ rfl).1
 have rf0 := (Lr 0 _ rfl).2
 have r1 := (Lr 1 _ rfl).1
 have rf1 := (Lr 1 _ rfl).2
 have r2 := (Lr 2 _ rfl).1
 have rf2 := (Lr 2 _ rfl).2
 go_wp2_with fail
 refine bodyPost_ret (v := .tuple #[.agg #[.int .i64 n, .slice B1 cs'.length k1, .slice B2 pl.length k2], .bool ok]) (by simp [results, Tryz.results90, go_sem, *]) rfl (⟨_, _, S, rfl, ?_, ?_, ?_⟩)
 ·exact OK.out.chg (T := [w.heap.size + 1]) (by repeat' (with_reducible first | exact Chg.refl _ _ | refine qC ?_)) (fun x hx hx' => DK.out x hx (by simp at hx'; subst hx'; simp))
 ·exact fresh_mono FK.out (by omega) (by simp)
 ·exact Below.chg hb (S := [w.heap.size + 1]) (by repeat' (with_reducible first | exact Chg.refl _ _ | refine qC ?_)) hb.size (fun x hx => by simp at hx; omega)
set_option maxHeartbeats 8000000 in
set_option maxRecDepth 100000 in
theorem specGoHome_any (n : Int) (v1 v2 : Value) (cs : List RCross) (pl : List RPl) (w : World) (h : RdCompany w v1 v2 cs pl) (hsz : szCompany cs pl ≤ 1048576) :
  Calls Tryz.prog 113 #[.agg #[.int .i64 n, v1, v2]] w (RetCompany n (goB n cs pl) (goC n cs pl) pl w) := by
 obtain ⟨⟨A1, n1, rfl⟩, ⟨A2, n2, rfl⟩⟩ := h.forms
 unfold goB goC
 have hll := homeL_len n cs
 have HC : Hid (∀ (W : World) (v : Value), RdL cCross 2 W v cs → Calls Tryz.prog 152 #[.int .i64 n, v] W fun e w' => ∃ v', e = .returned (.tuple #[v', .bool (crossesB n cs)]) ∧ w'.ownsRow W.heap.size 85 2 v' (homeL n cs).length ((homeL n cs).flatMap cCross) ∧ Below W.heap.size W w') := fun W v hr => specBringHome_any n v cs W hr
 have HW : Hid (∀ (W : World) (vl v1 v2 : Value), RdCompany W v1 v2 cs pl → RdL cCross 2 W vl (homeL n cs) → Calls Tryz.prog 151 #[.agg #[.int .i64 n, v1, v2], vl] W (RetCompany n (withB n cs pl (homeL n cs)) (withC n cs pl (homeL n cs)) pl W)) := fun W vl v1 v2 h1 h2 => l37Add_any n v1 v2 vl cs pl (homeL n cs) W h1 h2 (by omega) hsz
 generalize homeL n cs = hl at *
 generalize withB n cs pl hl = ok at *
 generalize withC n cs pl hl = cs' at *
 go_enter Tryz.func113, Tryz.ntmps113
 go_wp2_with fail
 refine (HC.out _ _ (h.below (by (repeat' (with_reducible first | exact Below.refl _ _ | assumption | refine qS ?_ _ | refine qA ?_ _ | refine qD ?_ | refine qN ?_ _)))).1).mono ?_
 rintro e W1 ⟨vl, rfl, ownl, q⟩
 have hvl : RdL cCross 2 W1 vl hl := RdS.of_own ownl
 clear ownl
 generalize crossesB n cs = okh at *
 obtain ⟨Al, cl, rfl, _, _⟩ := hvl.form
 have Lc : Loc W1 (w.heap.size) [.int .i64 n, .slice A1 cs.length n1, .slice A2 pl.length n2] := by have := ((Loc.new w #[.int .i64 n, .slice A1 cs.length n1, .slice A2 pl.length n2] 35).alloc _).below q; simpa using this
 have Lr : Loc W1 (w.heap.size + 1) [.int .i64 0, .slice none 0 0, .slice none 0 0] := by have := (Loc.new (w.alloc (.cells #[.int .i64 n, .slice A1 cs.length n1, .slice A2 pl.length n2] 35)) #[.int .i64 0, .slice none 0 0, .slice none 0 0] 35).below q; simpa using this
 have hb : Below w.heap.size w W1 := Below.trans (by (repeat' (with_reducible first | exact Below.refl _ _ | assumption | refine qS ?_ _ | refine qA ?_ _ | refine qD ?_ | refine qN ?_ _))) (q.mono (by simp <;> omega))
 have hz0 : w.heap.size + 1 + 1 ≤ W1.heap.size := by have := q.size; simp at this; omega
 clear q
 have c0 := (Lc 0 _ rfl).1
 have c1 := (Lc 1 _ rfl).1
 have c2 := (Lc 2 _ rfl).1
 go_wp2_with fail
 refine (HW.out _ _ _ _ (h.below hb) hvl).mono ?_
 rintro e W2 ⟨x1, x2, S, rfl, ow, f1, q⟩
 clear c0 c1 c2
 obtain ⟨⟨B1, k1, rfl⟩, ⟨B2, k2, rfl⟩⟩ := ow.rd.forms
 clear hvl
 have hzq : W1.heap.size ≤ W2.heap.size := by have := q.size; (try simp at this); omega
 replace Lc := Lc.below q
 replace Lr := Lr.below q
 replace hb : Below w.heap.size w W2 := hb.trans (q.mono hb.size)
 have hlow : W1.heap.size ≤ W1.heap.size := by first | exact Nat.le_refl _ | (simp; done) | (simp; omega) | omega
 have FK := Lib.hid (fresh_mono f1 hlow (Nat.le_refl _))
 have DK : Hid (∀ x ∈ S, x ∉ [w.heap.size, w.heap.size + 1]) := (fun x hx => by have := (FK.out.2 x hx).1; simp; omega)
 have OK := Lib.hid ow
 clear ow f1 hlow
 clear q
 go_upto_region 3 with (fail)
 replace Lc : Loc (W2.alloc (.cells #[.int .i64 n, .slice B1 cs'.length k1, .slice B2 pl.length k2] 35)) (w.heap.size) [.int .i64 n, .slice A1 cs.length n1, .slice A2 pl.length n2] := Lc.alloc _
 replace Lr : Loc (W2.alloc (.cells #[.int .i64 n, .slice B1 cs'.length k1, .slice B2 pl.length k2] 35)) (w.heap.size + 1) [.int .i64 0, .slice none 0 0, .slice none 0 0] := Lr.alloc _
 obtain ⟨go, hgo⟩ : ∃ g, W2.heap.size = g := ⟨_, rfl⟩
 have Lo : Loc (W2.alloc (.cells #[.int .i64 n, .slice B1 cs'.length k1, .slice B2 pl.length k2] 35)) W2.heap.size [.int .i64 n, .slice B1 cs'.length k1, .slice B2 pl.length k2] := Loc.new W2 #[.int .i64 n, .slice B1 cs'.length k1, .slice B2 pl.length k2] 35
 rw [hgo] at Lo
 replace OK := Lib.hid (OK.out.below (w' := (W2.alloc (.cells #[.int .i64 n, .slice B1 cs'.length k1, .slice B2 pl.length k2] 35))) ((Below.refl _ _).alloc (Nat.le_refl _) _))
 replace DK : Hid (∀ x ∈ S, x ∉ [w.heap.size, w.heap.size + 1, go]) := (fun x hx => by have := DK.out x hx; have := (FK.out.2 x hx).2; simp at *; omega)
 replace FK := Lib.hid (fresh_mono (w' := (W2.alloc (.cells #[.int .i64 n, .slice B1 cs'.length k1, .slice B2 pl.length k2] 35))) FK.out (Nat.le_refl _) (by simp))
 replace hb : Below w.heap.size w (W2.alloc (.cells #[.int .i64 n, .slice B1 cs'.length k1, .slice B2 pl.length k2] 35)) := hb.alloc hb.size _
 have hlto : go < (W2.alloc (.cells #[.int .i64 n, .slice B1 cs'.length k1, .slice B2 pl.length k2] 35)).heap.size := by simp; omega
 have hne_c_o : w.heap.size < go := by omega
 have hne_r_o : w.heap.size + 1 < go := by omega
 generalize W2.alloc (.cells #[.int .i64 n, .slice B1 cs'.length k1, .slice B2 pl.length k2] 35) = W3 at *
 rw [hgo]
 clear hgo
 have o0 := (Lo 0 _ rfl).1
 have o1 := (Lo 1 _ rfl).1
 have o2 := (Lo 2 _ rfl).1
 have r0 := (Lr 0 _ rfl).1
 have rf0 := (Lr 0 _ rfl).2
 have r1 := (Lr 1 _ rfl).1
 have rf1 := (Lr 1 _ rfl).2
 have r2 := (Lr 2 _ rfl).1
 have rf2 := (Lr 2 _ rfl).2
 go_wp2_with fail
 refine bodyPost_ret (v := .tuple #[.agg #[.int .i64 n, .slice B1 cs'.length k1, .slice B2 pl.length k2], .bool ok]) (by simp [results, Tryz.results113, go_sem, *]) rfl (⟨_, _, S, rfl, ?_, ?_, ?_⟩)
 ·exact OK.out.chg (T := [w.heap.size + 1]) (by repeat' (with_reducible first | exact Chg.refl _ _ | refine qC ?_)) (fun x hx hx' => DK.out x hx (by simp at hx'; subst hx'; simp))
 ·exact fresh_mono FK.out (by omega) (by simp)
 ·exact Below.chg hb (S := [w.heap.size + 1]) (by repeat' (with_reducible first | exact Chg.refl _ _ | refine qC ?_)) hb.size (fun x hx => by simp at hx; omega)
open Go.RowKit
theorem blocks_ne {vs : List Value} (h : (blocksOf vs).Nodup) {i k : Nat} (hik : i ≠ k) {u v : Value} (hu : vs[i]? = some u) (hv : vs[k]? = some v) : ∀ b ∈ u.ownBlock.toList, b ∉ v.ownBlock.toList := by
 intro b hb hb'
 rcases Nat.lt_or_ge i k with h1 | h1
 ·refine blocks_apart h hv b hb' (mem_blocks (i := i) ?_ b hb)
  rw [List.getElem?_take_of_lt h1]; exact hu
 ·refine blocks_apart h hu b hb (mem_blocks (i := k) ?_ b hb')
  rw [List.getElem?_take_of_lt (by omega)]; exact hv
theorem OwRows.pick {w : World} {S : List Nat} {v : Value} {ll : List (List Int)} (h : OwRows 26 3 w S v ll) (hS : S.Nodup) {a b : Nat} (ha : a < ll.length) (hb : b < (ll[a]).length) :
  ∃ go cgo g c, v = .slice (some ⟨go, 0, none⟩) ll.length cgo ∧ w.cell? ⟨go, a, none⟩ = some (.slice (some ⟨g, 0, none⟩) (ll[a]).length c) ∧ w.cell? ⟨g, b, none⟩ = some (.int .i64 ll[a][b]) ∧ w.frozen? ⟨g, b, none⟩ = false ∧ g ≠ go ∧ g ∈ S ∧ go ∈ S ∧
   ∀ x, OwRows 26 3 (w.setCell ⟨g, b, none⟩ (.int .i64 x)) S v (ll.set a ((ll[a]).set b x)) := by
 obtain ⟨vs, h1, h2, h3, rfl⟩ := h
 have ha' : a < vs.length := by omega
 obtain ⟨go, cgo, hv⟩ := own_form h2 (by omega)
 have hva : vs[a]? = some vs[a] := List.getElem?_eq_getElem ha'
 have hla : ll[a]? = some ll[a] := List.getElem?_eq_getElem ha
 have hra := h3 a _ _ hva hla
 obtain ⟨g, c, hg⟩ := own_form hra (by omega)
 have hgS : g ∈ blocksOf vs := mem_blocks hva g (by rw [hg]; simp [Value.ownBlock])
 have hgoS : go ∈ v.ownBlock.toList := by rw [hv]; simp [Value.ownBlock]
 obtain ⟨_, n2, d1, _⟩ := nodup2 hS
 have hne : g ≠ go := fun e => d1 go hgoS (by rw [← e]; exact hgS)
 subst hv
 refine ⟨go, cgo, g, c, by rw [h1], ?_, ?_, ?_, hne, List.mem_append_right _ hgS, List.mem_append_left _ hgoS, fun x => ?_⟩
 ·rw [← hg]
  exact (h2.cellAt a (by omega)).trans hva
 ·rw [hg] at hra
  exact row_cell hra hb
 ·rw [hg] at hra
  exact hra.frozenAt b
 ·have hch : Chg [g] w (w.setCell ⟨g, b, none⟩ (.int .i64 x)) := chg_set (Chg.refl _ _) (by simp)
  refine ⟨vs, by simpa using h1, own_chg h2 hch (fun y hy hy' => ?_), fun i u r hu hr => ?_, rfl⟩
  ·simp [Value.ownBlock] at hy hy'
   omega
  ·by_cases hi : a = i
   ·subst hi
    rw [hva] at hu
    simp only [Option.some.injEq] at hu
    subst hu
    rw [List.getElem?_set_self ha] at hr
    simp only [Option.some.injEq] at hr
    subst hr
    rw [hg] at hra ⊢
    have := row_stored hra b x
    rw [List.length_set]
    exact this
   ·rw [List.getElem?_set_ne hi] at hr
    refine own_chg (h3 i u r hu hr) hch (fun y hy hy' => ?_)
    simp only [List.mem_singleton] at hy'
    subst hy'
    exact blocks_ne n2 (fun e => hi e.symm) hu hva y hy (by rw [hg]; simp [Value.ownBlock])
def RowsX (T : List Nat) (B : Nat) (w : World) (v : Value) (ll : List (List Int)) : Prop := ∃ S, OwRows 26 3 w S v ll ∧ Fresh B w S ∧ ∀ b ∈ S, b ∉ T
theorem RowsX.rd {T : List Nat} {B : Nat} {w : World} {v : Value} {ll : List (List Int)} (h : RowsX T B w v ll) : RdRows w v ll := by obtain ⟨S, h1, _⟩ := h; exact h1.rd
theorem RowsX.below {T : List Nat} {B : Nat} {w w' : World} {v : Value} {ll : List (List Int)} (h : RowsX T B w v ll) (hb : Below w.heap.size w w') : RowsX T B w' v ll := by
 obtain ⟨S, h1, h2, h3⟩ := h
 exact ⟨S, h1.below hb, fresh_mono h2 (Nat.le_refl _) hb.size, h3⟩
theorem RowsX.base {T T' : List Nat} {B B' : Nat} {w : World} {v : Value} {ll : List (List Int)} (h : RowsX T B w v ll) (hB : B' ≤ B) (hT : ∀ b ∈ T', b < B) : RowsX T' B' w v ll := by
 obtain ⟨S, h1, h2, h3⟩ := h
 exact ⟨S, h1, fresh_mono h2 hB (Nat.le_refl _), fun b hb hb' => by have := (h2.2 b hb).1; have := hT b hb'; omega⟩
theorem RowsX.mono {T : List Nat} {B B' : Nat} {w : World} {v : Value} {ll : List (List Int)} (h : RowsX T B w v ll) (hB : B' ≤ B) : RowsX T B' w v ll := by
 obtain ⟨S, h1, h2, h3⟩ := h
 exact ⟨S, h1, fresh_mono h2 hB (Nat.le_refl _), h3⟩
theorem RowsX.nil {T : List Nat} {B : Nat} {w : World} : RowsX T B w (.slice none 0 0) [] :=
 ⟨[], ⟨[], rfl, World.ownsRow_nil _ _ _ _, fun i v' l hv hl => by simp at hv, rfl⟩, ⟨List.nodup_nil, fun b hb => by simp at hb⟩, fun b hb => by simp at hb⟩
theorem RowsX.empty {T : List Nat} {B : Nat} {w : World} (hB : B ≤ w.heap.size) (hT : ∀ b ∈ T, b < w.heap.size) : RowsX T B (w.alloc (.cells #[] 26)) (.slice (some ⟨w.heap.size, 0, none⟩) 0 0) [] := by
 refine ⟨[w.heap.size], ⟨[], rfl, own_mono (World.ownsRow_made (size := 1) (e := 26) w #[] 0 (Nat.le_refl _) (by simp [maxLen]) rfl) (Nat.zero_le _), fun i v' l hv hl => by simp at hv, rfl⟩, ⟨by simp, fun b hb => ?_⟩, fun b hb hb' => ?_⟩
 ·simp at hb; subst hb; simp; exact hB
 ·simp at hb; subst hb; have := hT _ hb'; omega
theorem rowsX_snoc {T : List Nat} {w w' : World} {B : Nat} {vs : List Value} {ll : List (List Int)} {q q' u : Value} {r : List Int} {Sk : List Nat} (hl : vs.length = ll.length) (hrows : RowsOwn 3 w vs ll)
  (hf : Fresh B w (q.ownBlock.toList ++ blocksOf vs)) (hT : ∀ b ∈ q.ownBlock.toList ++ blocksOf vs, b ∉ T) (hTw : ∀ b ∈ T, b < w.heap.size) (hk : OwL 3 cInt 1 w Sk u r) (hfk : Fresh B w Sk) (hTk : ∀ b ∈ Sk, b ∉ T) (hd : ∀ b ∈ q.ownBlock.toList ++ blocksOf vs, b ∉ Sk)
  (hown' : w'.ownsRow 0 26 1 q' (vs.length + 1) (vs ++ [u])) (hg : w.grownBy w' q.ownBlock) (hat : q'.ownBlock = q.ownBlock ∨ q'.ownBlock = some w.heap.size) (hB : B ≤ w.heap.size) :
  RowsX T B w' q' (ll ++ [r]) := by
 have hch := Chg.of_grown hg
 obtain ⟨n1, n2, dj, dj'⟩ := nodup2 hf.1
 have hs := hg.size
 have hSk := hk.2
 subst hSk
 have hq : ∀ b ∈ q'.ownBlock.toList, b ∈ q.ownBlock.toList ∨ b = w.heap.size := by
  intro b hb
  rcases hat with e | e
  ·rw [e] at hb; exact .inl hb
  ·rw [e] at hb; simp at hb; exact .inr hb
 refine ⟨_, ⟨vs ++ [u], by simp [hl], ?_, ?_, rfl⟩, ?_, ?_⟩
 ·rw [List.length_append]
  exact hown'
 ·intro i p r' hp hr'
  by_cases hi : i < vs.length
  ·rw [List.getElem?_append_left hi] at hp
   rw [List.getElem?_append_left (by omega)] at hr'
   exact own_chg (hrows i p r' hp hr') hch (fun b hb hb' => dj' b (mem_blocks hp b hb) hb')
  ·rw [List.getElem?_append_right (by omega)] at hp
   rw [List.getElem?_append_right (by omega)] at hr'
   have e1 : i - vs.length = 0 := by
    have := (List.getElem?_eq_some_iff.1 hp).1
    simp at this; omega
   rw [e1] at hp
   rw [show i - ll.length = 0 by omega] at hr'
   simp at hp hr'
   subst hp hr'
   exact own_chg hk.1 hch (fun b hb hb' => hd b (by simp [hb']) hb)
 ·rw [blocks_snoc]
  refine ⟨List.nodup_append.2 ⟨by cases q'.ownBlock <;> simp, List.nodup_append.2 ⟨n2, hfk.1, fun b hb b' hb' e => ?_⟩, fun b hb b' hb' e => ?_⟩, fun b hb => ?_⟩
  ·subst e
   exact hd b (List.mem_append_right _ hb) hb'
  ·subst e
   rcases hq b hb with h | h
   ·rcases List.mem_append.1 hb' with h' | h'
    ·exact dj b h h'
    ·exact hd b (List.mem_append_left _ h) h'
   ·rcases List.mem_append.1 hb' with h' | h'
    ·have := (hf.2 b (List.mem_append_right _ h')).2; omega
    ·have := (hfk.2 b h').2; omega
  ·rcases List.mem_append.1 hb with h | h
   ·have h1 := (own_lt hown' b h).2
    rcases hq b h with h' | h'
    ·have := (hf.2 b (List.mem_append_left _ h')).1; omega
    ·omega
   ·rcases List.mem_append.1 h with h' | h'
    ·have := hf.2 b (List.mem_append_right _ h'); omega
    ·have := hfk.2 b h'; omega
 ·rw [blocks_snoc]
  intro b hb hb'
  rcases List.mem_append.1 hb with h | h
  ·rcases hq b h with h' | h'
   ·exact hT b (List.mem_append_left _ h') hb'
   ·have := hTw b hb'; omega
  ·rcases List.mem_append.1 h with h' | h'
   ·exact hT b (List.mem_append_right _ h') hb'
   ·exact hTk b h' hb'
theorem RowsX.lit {T : List Nat} {B : Nat} {w W : World} {v : Value} {ll : List (List Int)} (h : RowsX T B w v ll) (hB : B ≤ w.heap.size) (hTw : ∀ b ∈ T, b < w.heap.size) (hbW : Below w.heap.size w W) {u : Value} {r : List Int} (hk : W.ownsRow w.heap.size 3 1 u r.length (r.flatMap cInt)) :
  ∃ vs, vs.length = ll.length ∧ W.ownsRow 0 26 1 v vs.length vs ∧ (∀ b ∈ v.ownBlock.toList, b ∉ T) ∧ (∀ b ∈ v.ownBlock.toList, B ≤ b ∧ b < w.heap.size) ∧
   ∀ w' q', w'.ownsRow 0 26 1 q' (vs.length + 1) (vs ++ [u]) → W.grownBy w' v.ownBlock → (q'.ownBlock = v.ownBlock ∨ q'.ownBlock = some W.heap.size) → RowsX T B w' q' (ll ++ [r]) := by
 obtain ⟨S, ⟨vs, h1, h2, h3, rfl⟩, hf, hT⟩ := h
 have hz := hbW.size
 refine ⟨vs, h1, own_below h2 hbW, fun b hb => hT b (List.mem_append_left _ hb), fun b hb => hf.2 b (List.mem_append_left _ hb), fun w' q' hown' hg hat => ?_⟩
 have hkl := own_lt hk
 exact rowsX_snoc (Sk := u.ownBlock.toList) h1 (h3.below hbW) (fresh_mono hf (Nat.le_refl _) hz) hT (fun b hb => by have := hTw b hb; omega) ⟨own_mono hk (Nat.zero_le _), rfl⟩
  ⟨by cases u.ownBlock <;> simp, fun b hb => by have := hkl b hb; omega⟩ (fun b hb hb' => by have := hkl b hb; have := hTw b hb'; omega) (fun b hb hb' => by have := (hf.2 b hb).2; have := hkl b hb'; omega) hown' hg hat (by omega)
theorem lit_own {w : World} (cs : Array Value) (r : List Int) (o : Obj) (hcs : cs.toList = r.flatMap cInt) (hr : r.length ≤ 1000) :
  ((w.alloc (.cells cs 3)).alloc o).ownsRow w.heap.size 3 1 (.slice (some ⟨w.heap.size, 0, none⟩) r.length r.length) r.length (r.flatMap cInt) := by
 have hlen : cs.size = r.length := by
  have := congrArg List.length hcs
  rw [Array.length_toList, row_flat, List.length_map] at this
  exact this
 have := own_newX (w := w) (B := w.heap.size) (cs := cs) (t := 3) (size := 1) (n := r.length) (Nat.le_refl _) (by omega) (by simp [maxLen]; omega)
 rw [hcs] at this
 exact this.alloc o
 where own_newX {w : World} {B : Nat} {cs : Array Value} {t : TypeId} {size n : Nat} (hB : B ≤ w.heap.size) (hcs : cs.size = n * size) (hm : n ≤ maxLen) : (w.alloc (.cells cs t)).ownsRow B t size (.slice (some ⟨w.heap.size, 0, none⟩) n n) n cs.toList :=
 ⟨by rw [Array.length_toList]; exact hcs, .inr ⟨w.heap.size, n, cs, rfl, hB, heap_alloc_new w _, Nat.le_refl _, hm, hcs, List.take_of_length_le (by rw [Array.length_toList, hcs]; exact Nat.le_refl _)⟩⟩
theorem OwRows.kept {w w' : World} {S : List Nat} {v : Value} {ll : List (List Int)} {q : Value} (h : OwRows 26 3 w S v ll) (hc : Chg q.ownBlock.toList w w') (hq : ∀ b ∈ q.ownBlock.toList, b ∉ S) : OwRows 26 3 w' S v ll := h.chg hc (fun b hb hb' => hq b hb' hb)
open Go.RowKit
theorem OwRows.pickT {w : World} {S : List Nat} {v : Value} {ll : List (List Int)} {m : Nat} (h : OwRows 26 3 w S v ll) (hS : S.Nodup) (hq : Sq m ll) {a b : Nat} (ha : a < m) (hb : b < m) :
    ∃ go cgo g c, v = .slice (some ⟨go, 0, none⟩) m cgo ∧ w.cell? ⟨go, a, none⟩ = some (.slice (some ⟨g, 0, none⟩) m c) ∧ w.cell? ⟨g, b, none⟩ = some (.int .i64 (cellT ll a b)) ∧ w.frozen? ⟨g, b, none⟩ = false ∧ g ≠ go ∧ g ∈ S ∧ go ∈ S ∧
      ∀ s, OwRows 26 3 (w.setCell ⟨g, b, none⟩ (.int .i64 (cellT ll a b + s))) S v (addT ll a b s) := by
  obtain ⟨h1, h2, h3⟩ := hq.at_ ha
  have h4 : b < (ll[a]).length := by rw [h2]; exact hb
  obtain ⟨go, cgo, g, c, e, c1, c2, f1, n1, n2, n3, h5⟩ := h.pick hS h1 h4
  rw [hq.len] at e
  rw [h2] at c1
  rw [← cellT_at h1 h4] at c2
  refine ⟨go, cgo, g, c, e, c1, c2, f1, n1, n2, n3, fun s => ?_⟩
  unfold addT
  rw [h3]
  exact h5 _
theorem RowsX.put {T : List Nat} {B : Nat} {w W : World} {v : Value} {ll : List (List Int)} (h : RowsX T B w v ll) (_ : B ≤ w.heap.size) (hTw : ∀ b ∈ T, b < w.heap.size) (hbW : Below w.heap.size w W) {u : Value} {r : List Int} (hk : W.ownsRow w.heap.size 3 1 u r.length (r.flatMap cInt)) {k : Nat} (hkl : k < ll.length) :
    ∃ go cgo, v = .slice (some ⟨go, 0, none⟩) ll.length cgo ∧ B ≤ go ∧ go < w.heap.size ∧ (∃ u0, W.cell? ⟨go, k, none⟩ = some u0) ∧ W.frozen? ⟨go, k, none⟩ = false ∧ RowsX T B (W.setCell ⟨go, k, none⟩ u) v (ll.set k r) := by
  obtain ⟨S, ⟨vs, h1, h2, h3, rfl⟩, hf, hT⟩ := h
  have hz := hbW.size
  obtain ⟨go, cgo, hv⟩ := own_form h2 (by omega)
  subst hv
  have hgo := hf.2 go (List.mem_append_left _ (by simp [Value.ownBlock]))
  have h2W := own_below h2 hbW
  have hkl' : k < vs.length := by omega
  have hkb := own_lt hk
  have hne : ∀ b ∈ u.ownBlock.toList, b ≠ go := fun b hb e => by have := (hkb b hb).1; omega
  have hch : Chg [go] W (W.setCell ⟨go, k, none⟩ u) := chg_set (Chg.refl _ _) (by simp)
  obtain ⟨_, n2, d1, _⟩ := nodup2 hf.1
  have hsub : ∀ b ∈ blocksOf (vs.set k u), b ∈ blocksOf vs ∨ b ∈ u.ownBlock.toList := by
    intro b hb
    obtain ⟨x, hx, hbx⟩ := List.mem_flatMap.1 hb
    rcases List.mem_or_eq_of_mem_set hx with hx | rfl
    · exact .inl (List.mem_flatMap.2 ⟨x, hx, hbx⟩)
    · exact .inr hbx
  refine ⟨go, cgo, by rw [h1], hgo.1, hgo.2, ⟨_, (h2W.cellAt k (by omega)).trans (List.getElem?_eq_getElem hkl')⟩, h2W.frozenAt k, ⟨_, ⟨vs.set k u, by simp [h1], ?_, ?_, rfl⟩, ⟨?_, ?_⟩, ?_⟩⟩
  · rw [List.length_set]
    exact (h2W.stored k u).1
  · intro i x r' hx hr'
    by_cases hi : k = i
    · subst hi
      rw [List.getElem?_set_self hkl'] at hx
      rw [List.getElem?_set_self hkl] at hr'
      simp only [Option.some.injEq] at hx hr'
      subst hx hr'
      exact own_chg (own_mono hk (Nat.zero_le _)) hch (fun b hb hb' => hne b hb (by simpa using hb'))
    · rw [List.getElem?_set_ne hi] at hx hr'
      exact own_chg (own_below (h3 i x r' hx hr') hbW) hch (fun b hb hb' => d1 go (by simp [Value.ownBlock]) (by simp at hb'; subst hb'; exact mem_blocks hx _ hb))
  · refine List.nodup_append.2 ⟨by simp [Value.ownBlock], blocks_set_nodup n2 (by cases u.ownBlock <;> simp) (fun b hb hb' => by have := (hkb b hb).1; have := (hf.2 b (List.mem_append_right _ hb')).2; omega), fun b hb b' hb' e => ?_⟩
    subst e
    have e : b = go := by simpa [Value.ownBlock] using hb
    subst e
    rcases hsub b hb' with h | h
    · exact d1 b (by simp [Value.ownBlock]) h
    · exact hne b h rfl
  · intro b hb
    rw [World.size_setCell]
    rcases List.mem_append.1 hb with h | h
    · have := hf.2 b (List.mem_append_left _ h); omega
    · rcases hsub b h with h | h
      · have := hf.2 b (List.mem_append_right _ h); omega
      · have := hkb b h; omega
  · intro b hb hb'
    rcases List.mem_append.1 hb with h | h
    · exact hT b (List.mem_append_left _ h) hb'
    · rcases hsub b h with h | h
      · exact hT b (List.mem_append_right _ h) hb'
      · have := (hkb b h).1; have := hTw b hb'; omega
 where blocks_set_nodup : ∀ {vs : List Value} {k : Nat} {u : Value}, (blocksOf vs).Nodup → u.ownBlock.toList.Nodup → (∀ b ∈ u.ownBlock.toList, b ∉ blocksOf vs) → (blocksOf (vs.set k u)).Nodup
  | [], k, u, h, _, _ => by simpa using h
  | v :: vs, 0, u, h, hu, hd => by
    rw [List.set_cons_zero]
    unfold blocksOf at h hd ⊢
    rw [List.flatMap_cons] at h hd ⊢
    exact List.nodup_append.2 ⟨hu, (List.nodup_append.1 h).2.1, fun b hb b' hb' e => hd b hb (by rw [e]; exact List.mem_append_right _ hb')⟩
  | v :: vs, k + 1, u, h, hu, hd => by
    rw [List.set_cons_succ]
    have h' := h
    unfold blocksOf at h' ⊢
    rw [List.flatMap_cons] at h' ⊢
    obtain ⟨h1, h2, h3⟩ := List.nodup_append.1 h'
    refine List.nodup_append.2 ⟨h1, blocks_set_nodup (k := k) (u := u) h2 hu (fun b hb hb' => hd b hb (by unfold blocksOf; rw [List.flatMap_cons]; exact List.mem_append_right _ hb')), fun b hb b' hb' e => ?_⟩
    subst e
    obtain ⟨x, hx, hbx⟩ := List.mem_flatMap.1 hb'
    rcases List.mem_or_eq_of_mem_set hx with hx | rfl
    · exact h3 b hb b (List.mem_flatMap.2 ⟨x, hx, hbx⟩) rfl
    · exact hd b hbx (by unfold blocksOf; rw [List.flatMap_cons]; exact List.mem_append_left _ hb)
def rowsK (m k : Nat) : List (List Int) := List.replicate k (List.replicate m 0) ++ List.replicate (m - k) []
theorem rowsK_len {m k : Nat} (h : k ≤ m) : (rowsK m k).length = m := by simp [rowsK]; omega
theorem rowsK_zero (m : Nat) : rowsK m 0 = List.replicate m [] := by simp [rowsK]
theorem rowsK_end (m : Nat) : rowsK m m = zeroT m := by simp [rowsK, zeroT]
theorem rowsK_succ {m k : Nat} (h : k < m) : rowsK m (k + 1) = (rowsK m k).set k (List.replicate m 0) := by
  unfold rowsK
  rw [List.set_append_right _ _ (by simp), List.length_replicate, Nat.sub_self]
  obtain ⟨d, hd⟩ : ∃ d, m - k = d + 1 := ⟨m - k - 1, by omega⟩
  rw [hd, show List.replicate (d + 1) ([] : List Int) = [] :: List.replicate d [] from List.replicate_succ, List.set_cons_zero, show m - (k + 1) = d by omega, List.replicate_succ', List.append_assoc]
  rfl
theorem rowsX_made {B : Nat} {w : World} {v : Value} {m : Nat} (h : w.ownsRow B 26 1 v m (List.replicate m (.slice none 0 0))) : RowsX [] B w v (rowsK m 0) := by
  rw [rowsK_zero]
  have e : blocksOf (List.replicate m (Value.slice none 0 0)) = [] := by
    unfold blocksOf
    rw [List.flatMap_eq_nil_iff]
    intro x hx
    rw [List.eq_of_mem_replicate hx]
    rfl
  refine ⟨v.ownBlock.toList, ⟨List.replicate m (.slice none 0 0), by simp, by rw [List.length_replicate]; exact own_mono h (Nat.zero_le _), fun i u r hu hr => ?_, by rw [e, List.append_nil]⟩, fresh_of h, fun b _ => by simp⟩
  rw [List.getElem?_replicate] at hu hr
  split at hu
  · rename_i hi
    rw [if_pos hi] at hr
    simp only [Option.some.injEq] at hu hr
    subst hu hr
    exact World.ownsRow_nil _ _ _ _
  · simp at hu
theorem stepB_t : stepB true = 1 := rfl
theorem stepB_f : stepB false = -1 := rfl
set_option maxHeartbeats 4000000 in
set_option maxRecDepth 100000 in
theorem twists1_any (a X Y : Int) (f : Bool) (m gt : Nat) (S : List Nat) (vt : Value) (ll : List (List Int)) (w : World) (hbox : w.cell? ⟨gt, 0, none⟩ = some vt) (h : OwRows 26 3 w S vt ll) (hS : S.Nodup) (hgt : gt ∉ S) (hSw : ∀ b ∈ S, b < w.heap.size) (hq : Sq m ll) (hX : 0 ≤ X ∧ X < m) (hY : 0 ≤ Y ∧ Y < m) (hbd : ∀ i j, -1000 ≤ cellT ll i j ∧ cellT ll i j ≤ 1000) :
    Calls Tryz.prog 168 #[.agg #[.int .i64 a, .bool f], .int .i64 X, .int .i64 Y, .pointer (some ⟨gt, 0, none⟩)] w fun e w' => e = .returned (.tuple #[]) ∧ OwRows 26 3 w' S vt (addT (addT ll X.toNat Y.toNat (stepB f)) Y.toNat X.toNat (stepB f)) ∧ Chg S w w' := by
  obtain ⟨x, rfl⟩ := Int.eq_ofNat_of_zero_le hX.1
  obtain ⟨y, rfl⟩ := Int.eq_ofNat_of_zero_le hY.1
  have hx : x < m := by omega
  have hy : y < m := by omega
  clear hX hY
  show Calls Tryz.prog 168 _ w fun e w' => e = .returned (.tuple #[]) ∧ OwRows 26 3 w' S vt (addT (addT ll x y (stepB f)) y x (stepB f)) ∧ Chg S w w'
  have hch0 : Chg S w (w.alloc (.cells #[.int .i64 a, .bool f] 85)) := Chg.of_below ((Below.refl _ _).alloc (Nat.le_refl _) _) S
  have h0 := h.below ((Below.refl _ _).alloc (Nat.le_refl _) (.cells #[.int .i64 a, .bool f] 85))
  have hbox0 := cell_alloc (.cells #[.int .i64 a, .bool f] 85) hbox
  have Lc := Loc.new w #[.int .i64 a, .bool f] 85
  have hgc : w.heap.size ∉ S := fun hm => by have := hSw _ hm; omega
  have hcg : ¬ w.heap.size = gt := fun e => by have := World.block_lt_of_cell? w _ hbox; simp at this; omega
  obtain ⟨s, hs⟩ : ∃ s, stepB f = s := ⟨_, rfl⟩
  have hs1 : -1 ≤ s ∧ s ≤ 1 := by cases f <;> (rw [← hs]; decide)
  rw [hs]
  have hb1 := hbd x y
  obtain ⟨go, cgo, g, c, rfl, c1, c2, f1, n1, n2, n3, H1⟩ := h0.pickT hS hq hx hy
  have hq2 := addT_sq hq hx y s
  have hb2 : -1001 ≤ cellT (addT ll x y s) y x ∧ cellT (addT ll x y s) y x ≤ 1001 := by
    rw [addT_cell hq hx hy]
    split
    · rename_i e; omega
    · have := hbd y x; omega
  obtain ⟨T1, hT1⟩ : ∃ T1, addT ll x y s = T1 := ⟨_, rfl⟩
  have h1 := H1 s
  rw [hT1] at h1 hq2 hb2 ⊢
  clear H1 hT1 h hq hbd h0
  obtain ⟨v1, hv1⟩ : ∃ v1, cellT ll x y + s = v1 := ⟨_, rfl⟩
  have hw1 : IntKind.i64.wrap (cellT ll x y + s) = v1 := by rw [← hv1]; exact IntWalk.i64_in _ (by omega)
  rw [hv1] at h1
  clear hv1
  generalize cellT ll x y = t1 at *
  obtain ⟨go', cgo', g', c', e, d1, d2, f2, m1, m2, m3, H2⟩ := h1.pickT hS hq2 hy hx
  have h2 := H2 s
  injection e with e1 e2 e3
  injection e1 with e1
  injection e1 with e1
  subst e1 e3
  clear H2 e2 h1
  obtain ⟨v2, hv2⟩ : ∃ v2, cellT T1 y x + s = v2 := ⟨_, rfl⟩
  have hw2 : IntKind.i64.wrap (cellT T1 y x + s) = v2 := by rw [← hv2]; exact IntWalk.i64_in _ (by omega)
  rw [hv2] at h2
  clear hv2
  generalize cellT T1 y x = t2 at *
  have hgg : ¬ g = gt := fun e => hgt (e ▸ n2)
  have hgg' : ¬ gt = g := fun e => hgg e.symm
  have hgw : ¬ g = w.heap.size := fun e => hgc (e ▸ n2)
  have hgw' : ¬ w.heap.size = g := fun e => hgw e.symm
  have hgo1 : ¬ go = g := fun e => n1 e.symm
  have hgo2 : ¬ go = g' := fun e => m1 e.symm
  have hx0 : (x : Int) < (m : Int) := by omega
  have hy0 : (y : Int) < (m : Int) := by omega
  have k0 := (Lc 0 _ rfl).1
  have k1 := (Lc 1 _ rfl).1
  have H := Lib.hid h2
  have HC : Hid (Chg S w (((w.alloc (.cells #[.int .i64 a, .bool f] 85)).setCell ⟨g, y, none⟩ (.int .i64 v1)).setCell ⟨g', x, none⟩ (.int .i64 v2))) := hch0.trans (chg_set (chg_set (Chg.refl _ _) n2) m2)
  have hbox1 : ((w.alloc (.cells #[.int .i64 a, .bool f] 85)).setCell ⟨g, y, none⟩ (.int .i64 v1)).cell? ⟨gt, 0, none⟩ = some (.slice (some ⟨go, 0, none⟩) m cgo) := carryChg (S := [g]) (chg_set (Chg.refl _ _) (by simp)) hbox0 (by simp; exact fun e => hgg e.symm)
  obtain ⟨W1, hW1⟩ : ∃ W1, (w.alloc (.cells #[.int .i64 a, .bool f] 85)).setCell ⟨g, y, none⟩ (.int .i64 v1) = W1 := ⟨_, rfl⟩
  rw [hW1] at hbox1 d1 d2 f2 H HC
  have hSz : m < 9223372036854775807 ∨ True := .inr trivial
  clear h2 hch0 Lc hgc hSw hS hgt hq2 n2 n3 m2 m3 hSz hb1 hb2
  have HW1 := Lib.hid hW1
  clear hW1
  cases f
  all_goals
    first | rw [stepB_t] at hs | rw [stepB_f] at hs
    subst hs
    go_enter Tryz.func168, Tryz.ntmps168
    go_upto_region 5 with (fail)
    rw [HW1.out]
    clear c1 c2 f1 hbox0 k0 k1 hw1
    go_wp2_with fail
    go_end0
    exact ⟨rfl, H.out, HC.out⟩
set_option maxHeartbeats 8000000 in
set_option maxRecDepth 100000 in
theorem followTw_any (m : Nat) (v : Value) (cs : List RCross) (w0 w : World) (h : RdL cCross 2 w0 v cs) (hw0 : Below w0.heap.size w0 w) (hm : 1 ≤ m ∧ m ≤ 7) (hlen : cs.length ≤ 40) (hcs : ∀ c ∈ cs, 0 ≤ c.1 ∧ c.1 ≤ (m : Int) - 2) (gt : Nat) (S : List Nat) (vt : Value) (hbox : w.cell? ⟨gt, 0, none⟩ = some vt) (hrows : OwRows 26 3 w S vt (zeroT m)) (hS : S.Nodup) (hgt : gt ∉ S) (hSB : ∀ b ∈ S, w0.heap.size ≤ b ∧ b < w.heap.size) :
    Calls Tryz.prog 166 #[.int .i64 m, v, .func (.func 168) #[] #[.pointer (some ⟨gt, 0, none⟩)]] w fun e w' => ∃ v', e = .returned v' ∧ w'.ownsRow w.heap.size 3 1 v' (orderF m cs).length ((orderF m cs).flatMap cInt) ∧ OwRows 26 3 w' S vt (twL m cs) ∧ w'.cell? ⟨gt, 0, none⟩ = some vt ∧ Below w0.heap.size w0 w' := by
  have h0 := h
  obtain ⟨A, c, rfl, h1, h2⟩ := h.form
  go_enter Tryz.func166, Tryz.ntmps166
  go_wp2_with fail
  refine (upTo_any m w (by omega)).mono ?_
  rintro e w1 ⟨v1, rfl, own1, hb1⟩
  have hm0 : 0 < (upN m).length := by rw [upN_len]; omega
  obtain ⟨go, co, rfl⟩ := own_form own1 hm0
  have hgo := own1.lt go rfl
  have hz1 := hb1.size
  rw [upN_len] at own1
  rw [upN_len]
  clear hm0
  have own1' : w1.ownsRow w.heap.size 3 1 (.slice (some ⟨go, 0, none⟩) m co) m ((orderF m (cs.take 0)).flatMap cInt) := own1
  have Hcs := Lib.hid hcs
  clear own1 hcs
  have hz00 := hw0.size
  have hgo0 : w0.heap.size ≤ go := by omega
  have hgtw : gt < w.heap.size := World.block_lt_of_cell? w _ hbox
  have hrows1 := hrows.below hb1
  have hbox1 := carry hb1 hbox
  have hb01 : Below w0.heap.size w0 w1 := hw0.trans (hb1.mono (by omega))
  go_wp2_with fail
  go_loopw [9, 14] (fun _ i wr => ∃ k : Nat, k ≤ cs.length ∧ i = .int .i64 k ∧ wr.ownsRow w.heap.size 3 1 (.slice (some ⟨go, 0, none⟩) m co) m ((orderF m (cs.take k)).flatMap cInt) ∧ OwRows 26 3 wr S vt (twL m (cs.take k)) ∧ wr.cell? ⟨gt, 0, none⟩ = some vt ∧ Below w0.heap.size w0 wr) (fun _ i _ => cs.length - (intOf i).toNat)
  case atStart => exact ⟨0, Nat.zero_le _, rfl, own1', hrows1, hbox1, hb01⟩
  case round =>
    obtain ⟨k, hk, rfl, hown, hrw, hbx, hb⟩ := hrel
    clear own1' hb1 hrows1 hbox1 hb01
    by_cases hlt : k < cs.length
    · have hr := h0.below hb
      obtain ⟨g, off, rfl, hg, hc⟩ := hr.cell cCross_len (by omega) hlt
      have k0 := hc 0 _ rfl
      have k1 := hc 1 _ rfl
      simp only [Nat.add_zero] at k0 k1
      clear hc
      have hcb := Hcs.out _ (List.getElem_mem hlt)
      have hsn := orderF_snoc m hlt
      have hord : IsOrd m (orderF m (cs.take k)) := IsOrd.order (fun c hc => Hcs.out c (List.mem_of_mem_take hc))
      have hol := hord.len
      obtain ⟨a, ha⟩ := Int.eq_ofNat_of_zero_le hcb.1
      rw [ha] at k0 hcb
      rw [ha, show ((a : Nat) : Int).toNat = a from rfl] at hsn
      have ha1 : a + 1 < m := by omega
      have htw := twL_snoc m hlt
      rw [ha, show ((a : Nat) : Int).toNat = a from rfl] at htw
      have HO := Lib.hid hord
      have HTQ := Lib.hid (twL_sq (n := m) (cs := cs.take k) (fun c hc => Hcs.out c (List.mem_of_mem_take hc)))
      have HBD : Hid (∀ i j, -1000 ≤ cellT (twL m (cs.take k)) i j ∧ cellT (twL m (cs.take k)) i j ≤ 1000) := fun i j => by have := twL_bd Hcs.out k (by omega) i j; omega
      have HTW := Lib.hid htw
      clear htw
      generalize hTT : twL m (cs.take k) = TT at *
      clear hTT
      generalize cs[k] = cc at *
      obtain ⟨ca, f⟩ := cc
      simp only at ha k0 k1
      subst ha
      generalize orderF m (cs.take k) = o at *
      have hal : a + 1 < o.length := by omega
      have Hsn : Hid (orderF m (cs.take (k + 1)) = (o.set a o[a + 1]).set (a + 1) o[a]) := by rw [← swapL_eq hal]; exact hsn
      clear hsn hord
      go_upto_region 5 with (fail)
      have Lo := Loc.new wr #[.int .i64 a, .bool f] 85
      have hgow := (hown.lt go rfl).2
      have hown2 := hown.alloc (.cells #[.int .i64 a, .bool f] 85)
      have hb2 := hb.alloc (o := (.cells #[.int .i64 a, .bool f] 85)) hb.size
      obtain ⟨gb, hgb⟩ : ∃ g, wr.heap.size = g := ⟨_, rfl⟩
      have hgbW : gb < (wr.alloc (.cells #[.int .i64 a, .bool f] 85)).heap.size := by simp; omega
      have hwgb : w.heap.size ≤ gb := by have := hgo.1; omega
      rw [hgb] at Lo hgow
      clear hown hr k0 k1
      have htw := HTW.out
      rw [getD_get o a (by omega), getD_get o (a + 1) hal] at htw
      clear HTW
      have HTW := Lib.hid htw
      clear htw
      have hXa := HO.out.bd _ (List.getElem_mem (show a < o.length by omega))
      have hYa := HO.out.bd _ (List.getElem_mem hal)
      clear HO
      have hrw2 := hrw.below ((Below.refl _ _).alloc (Nat.le_refl _) (.cells #[.int .i64 a, .bool f] 85))
      have hbx2 := cell_alloc (.cells #[.int .i64 a, .bool f] 85) hbx
      have hSW : ∀ b ∈ S, b < (wr.alloc (.cells #[.int .i64 a, .bool f] 85)).heap.size := fun b hb => by have := hSB b hb; simp; omega
      clear hrw hbx
      generalize wr.alloc (.cells #[.int .i64 a, .bool f] 85) = W at *
      rw [hgb]
      clear hgb hb hg
      have b0 := (Lo 0 _ rfl).1
      have b1 := (Lo 1 _ rfl).1
      have q1 := row_cell hown2 (k := a) (by omega)
      have q2 := row_cell hown2 (k := a + 1) hal
      have i1 : (a : Int) < (m : Int) := by omega
      have i2 : (a : Int) + 1 < (m : Int) := by omega
      have hw := IntWalk.i64_in ((a : Int) + 1) (by omega)
      have e1 : ((a : Int) + 1).toNat = a + 1 := by omega
      have ia : a < m := by omega
      have i4 : (0 : Int) ≤ (a : Int) + 1 := by omega
      have i5 : ¬ (a : Int) + 1 < 0 := by omega
      go_still_tail 13, (by kernel_rfl)
      clear i1 i2 i4 i5
      change wpList _ _ _ _ _ (World.drew W)
      have Hok := Lib.hid (show a < o.length ∧ a + 1 < o.length from ⟨by omega, hal⟩)
      have hCT := twists1_any (a : Int) o[a] o[a + 1] f m gt S vt TT W.drew hbx2 hrw2 hS hgt (fun b hb => by have := hSW b hb; show b < W.heap.size; omega) HTQ.out hXa hYa HBD.out
      go_wp2_with (go_at_call 168; refine hCT.mono ?_; rintro e w2 ⟨rfl, hrw3, hch⟩)
      have hgoS : go ∉ S := fun hm => by have := hSB go hm; omega
      have hgbS : gb ∉ S := fun hm => by have := hSB gb hm; omega
      have hWz : W.heap.size ≤ w2.heap.size := hch.size
      have hown3 := own_chg (show W.drew.ownsRow w.heap.size 3 1 (.slice (some ⟨go, 0, none⟩) m co) m (o.flatMap cInt) from hown2) hch (fun x hx hx' => hgoS (by simp [Value.ownBlock] at hx; subst hx; exact hx'))
      have hb4 : Below w0.heap.size w0 w2 := Below.chg hb2.drew hch (by have := hb2.size; show w0.heap.size ≤ W.heap.size; omega) (fun b hb => (hSB b hb).1)
      replace Lo := (show Loc W.drew gb _ from Lo).chg hch hgbS
      have hbx3 := carryChg hch hbx2 hgt
      have H9 : Chg [go] w2 ((w2.setCell ⟨go, a, none⟩ (.int .i64 o[a + 1])).setCell ⟨go, a + 1, none⟩ (.int .i64 o[a])) := chg_set (chg_set (Chg.refl _ _) (by simp)) (by simp)
      have HR := Lib.hid (hrw3.chg H9 (fun x hx hx' => by simp at hx'; subst hx'; exact hgoS hx))
      rw [← HTW.out] at HR
      have HX := Lib.hid (carryChg H9 hbx3 (by simp; omega))
      clear b0 b1 q1 q2 hown2 hb2 hch hgbW hCT hrw2 hbx2 hrw3 hbx3 H9 hXa hYa HTW
      have b0 := (Lo 0 _ rfl).1
      have q1 := row_cell hown3 (k := a) (by omega)
      have q2 := row_cell hown3 (k := a + 1) hal
      have fz1 := hown3.frozenAt a
      have fz2 := hown3.frozenAt (a + 1)
      have ne1 : ¬ go = gb := by omega
      have ne2 : ¬ gb = go := by omega
      have hz4 : w.heap.size ≤ w2.heap.size := by have := (hown3.lt go rfl).2; omega
      have hgz : go < w2.heap.size := (hown3.lt go rfl).2
      have HB := Lib.hid (show Below w0.heap.size w0 ((w2.setCell ⟨go, a, none⟩ (.int .i64 o[a + 1])).setCell ⟨go, a + 1, none⟩ (.int .i64 o[a])) from (hb4.setCell hgo0 _).setCell hgo0 _)
      have H3 := Lib.hid (row_stored (row_stored hown3 a o[a + 1]) (a + 1) o[a])
      rw [← Hsn.out] at H3
      clear Hsn hown3 hb4 Lo
      generalize o[a + 1] = y at *
      generalize o[a] = x at *
      clear hol hal
      go_region
      go_wp2_with fail
      go_roundw
      case rel => exact ⟨k + 1, by omega, by go_num, H3.out, HR.out, HX.out, HB.out.drew⟩
      case measure => simp [intOf]; omega
    · obtain rfl : k = cs.length := by omega
      rw [List.take_length] at hown
      go_wp2_with fail
      go_ret
      rw [orderF_len]
      exact ⟨_, rfl, hown, (by rw [List.take_length] at hrw; exact hrw), hbx, hb⟩
theorem made_rows (n : Nat) : (madeCells (Value.slice none 0 0).cells n).toList = List.replicate n (Value.slice none 0 0) := by
  apply List.ext_getElem
  · simp [madeCells]
  · intro i h1 h2
    simp [madeCells, Value.cells, Nat.mod_one]
theorem act25tw {a : Act} (h : a.tmps.size = 25) (hd : a.defers = []) : ∃ x0 x1 x2 x3 x4 x5 x6 x7 x8 x9 x10 x11 x12 x13 x14 x15 x16 x17 x18 x19 x20 x21 x22 x23 x24 : Value, a = ⟨#[x0, x1, x2, x3, x4, x5, x6, x7, x8, x9, x10, x11, x12, x13, x14, x15, x16, x17, x18, x19, x20, x21, x22, x23, x24], []⟩ := by
  obtain ⟨⟨l⟩, d⟩ := a
  subst hd
  match l, h with
  | [x0, x1, x2, x3, x4, x5, x6, x7, x8, x9, x10, x11, x12, x13, x14, x15, x16, x17, x18, x19, x20, x21, x22, x23, x24], _ => exact ⟨x0, x1, x2, x3, x4, x5, x6, x7, x8, x9, x10, x11, x12, x13, x14, x15, x16, x17, x18, x19, x20, x21, x22, x23, x24, rfl⟩
def ptw (go k m B : Nat) (i : Nat) (v : Value) (_ : Nat → Nat) (w : World) : Prop :=
  match i with
  | 0 => v = .slice (some ⟨go, 0, none⟩) m m
  | 1 => v = .int .i64 k
  | 2 => v = .int .i64 m
  | 3 => w.ownsRow B 3 1 v m ((List.replicate m 0).flatMap cInt)
  | 4 => v = .pointer (some ⟨go, k, none⟩)
  | _ => True
set_option maxHeartbeats 8000000 in
set_option maxRecDepth 100000 in
theorem implTwists_any (m : Nat) (v : Value) (cs : List RCross) (w : World) (h : RdL cCross 2 w v cs) (hqc : crossesB m cs = true) :
    Calls Tryz.prog 145 #[.int .i64 m, v] w fun e w' => ∃ v', e = .returned v' ∧ RowsX [] w.heap.size w' v' (twL m cs) ∧ Below w.heap.size w w' := by
  have h0 := h
  obtain ⟨A, c, rfl, h1, h2⟩ := h.form
  obtain ⟨hn, hlen, hcs⟩ := crosses_len hqc
  have hm : 1 ≤ m ∧ m ≤ 7 := by omega
  have HCS := Lib.hid hcs
  obtain ⟨i0, hi0, hz0, hz1, hz2⟩ := info_parts infoInt
  obtain ⟨iR, hiR, hzR0, hzR1, hzR2⟩ := info_parts infoRow
  clear hcs hqc hn
  go_enter Tryz.func145, Tryz.ntmps145
  go_wp2_with (at_make; refine wpList_make_full _ rfl _ _ _ rfl w.heap.size 26 iR _ 1 Tryz.underlying77 hiR hzR0 hzR1 _ _ _ _ m rfl rfl rfl rfl (by rw [hzR2]; omega) (by simp [maxLen]; omega) (Nat.le_refl _) ?_; intro w1 hown hgr)
  rw [made_rows, Nat.mul_one] at hown
  have hb1 : Below w.heap.size w w1 := (Below.refl _ _).grown hgr (Nat.le_refl _) (by simp)
  have hz01 := (hown.lt w.heap.size rfl).2
  obtain ⟨S, hS1, hS2, _⟩ := rowsX_made hown
  obtain ⟨gb, hgb⟩ : ∃ g, w1.heap.size = g := ⟨_, rfl⟩
  have hrw0 : RowsX [gb] w.heap.size (w1.alloc (.cells #[.slice (some ⟨w.heap.size, 0, none⟩) m m] 77)) (.slice (some ⟨w.heap.size, 0, none⟩) m m) (rowsK m 0) :=
    ⟨S, hS1.below ((Below.refl _ _).alloc (Nat.le_refl _) _), fresh_mono hS2 (Nat.le_refl _) (by simp), fun b hb hb' => by have := (hS2.2 b hb).2; simp at hb'; omega⟩
  have Lb0 := Loc.new w1 #[.slice (some ⟨w.heap.size, 0, none⟩) m m] 77
  have hb0 : Below w.heap.size w (w1.alloc (.cells #[.slice (some ⟨w.heap.size, 0, none⟩) m m] 77)) := hb1.alloc (by omega) _
  have hzg : gb < (w1.alloc (.cells #[.slice (some ⟨w.heap.size, 0, none⟩) m m] 77)).heap.size := by simp; omega
  rw [hgb] at Lb0 hz01
  clear hown hgr hb1 hS1 hS2
  go_upto_region 2 with (fail)
  generalize (w1.alloc (.cells #[.slice (some ⟨w.heap.size, 0, none⟩) m m] 77)) = W at *
  (try rw [hgb])
  clear hgb w1
  have bx0 := (Lb0 0 _ rfl).1
  go_wp2_with fail
  go_loopw [6, 11] (fun _ i wr => ∃ k : Nat, k ≤ m ∧ i = .int .i64 k ∧ RowsX [gb] w.heap.size wr (.slice (some ⟨w.heap.size, 0, none⟩) m m) (rowsK m k) ∧ Loc wr gb [.slice (some ⟨w.heap.size, 0, none⟩) m m] ∧ gb < wr.heap.size ∧ Below w.heap.size w wr) (fun _ i _ => m - (intOf i).toNat)
  case atStart => exact ⟨0, Nat.zero_le _, rfl, hrw0, Lb0, hzg, hb0⟩
  case round =>
    obtain ⟨k, hk, rfl, hrw, Lb, hzb, hb⟩ := hrel
    clear hrw0 Lb0 hzg hb0 bx0
    have hz := hb.size
    by_cases hlt : k < m
    · go_upto_region 5 with (fail)
      refine region_made (n := 25) 5 (by kernel_rfl) rfl (by kernel_rfl) (fun w' => Below wr.heap.size wr w') (fun _ => 0) (ptw w.heap.size k m wr.heap.size) (Below.refl _ _).drew ?_ ?_ ?_
      · intro i v gh gh' w1 w2 hp hJ hb' hg
        match i, hp with
        | 0, hp => exact hp
        | 1, hp => exact hp
        | 2, hp => exact hp
        | 3, hp => exact own_below hp hb'
        | 4, hp => exact hp
        | _ + 5, _ => trivial
      · refine ⟨?_, ?_, ?_, ?_, ?_, trivial⟩
        all_goals
          intro a gh w1 hag hJ hd
          obtain ⟨x0, x1, x2, x3, x4, x5, x6, x7, x8, x9, x10, x11, x12, x13, x14, x15, x16, x17, x18, x19, x20, x21, x22, x23, x24, rfl⟩ := act25tw hag.size hag.defers
          have ag0 : x0 = .int .i64 m := hag.kept 0 (by kernel_rfl)
          have ag5 : x5 = .pointer (some ⟨gb, 0, none⟩) := hag.kept 5 (by kernel_rfl)
          have ag6 : x6 = .int .i64 k := hag.kept 6 (by kernel_rfl)
          clear hag
          subst ag0 ag5 ag6
        · have c0 := ((Lb.below hJ) 0 _ rfl).1
          go_wp2_with fail
          exact ⟨rfl, _, rfl, rfl, hJ, Below.refl _ _⟩
        · go_wp2_with fail
          exact ⟨rfl, _, rfl, rfl, hJ, Below.refl _ _⟩
        · go_wp2_with fail
          exact ⟨rfl, _, rfl, rfl, hJ, Below.refl _ _⟩
        · have e1 : x16 = .int .i64 m := hd 2 (by kernel_rfl) _ rfl
          subst e1
          go_wp2_with (at_make; refine wpList_make_full _ rfl _ _ _ rfl w1.heap.size 3 i0 _ 1 Tryz.underlying26 hi0 hz0 hz1 _ _ _ _ m rfl rfl rfl rfl (by rw [hz2]; omega) (by simp [maxLen]; omega) (Nat.le_refl _) ?_; intro w2 hown hgr)
          rw [row_made, Nat.mul_one] at hown
          have hb2 : Below w1.heap.size w1 w2 := (Below.refl _ _).grown hgr (Nat.le_refl _) (by simp)
          exact ⟨rfl, _, rfl, own_mono hown hJ.size, bl_trans hJ hb2, hb2⟩
        · have e1 : x14 = .slice (some ⟨w.heap.size, 0, none⟩) m m := hd 0 (by kernel_rfl) _ rfl
          have e2 : x15 = .int .i64 k := hd 1 (by kernel_rfl) _ rfl
          subst e1 e2
          go_wp2_with fail
          exact ⟨rfl, _, rfl, rfl, hJ, Below.refl _ _⟩
      · intro a gh w1 hag hJ hd
        obtain ⟨x0, x1, x2, x3, x4, x5, x6, x7, x8, x9, x10, x11, x12, x13, x14, x15, x16, x17, x18, x19, x20, x21, x22, x23, x24, rfl⟩ := act25tw hag.size hag.defers
        have ag0 : x0 = .int .i64 m := hag.kept 0 (by kernel_rfl)
        have ag1 : x1 = .slice A cs.length c := hag.kept 1 (by kernel_rfl)
        have ag2 : x2 = undef := hag.kept 2 (by kernel_rfl)
        have ag3 : x3 = undef := hag.kept 3 (by kernel_rfl)
        have ag4 : x4 = .slice none 0 0 := hag.kept 4 (by kernel_rfl)
        have ag5 : x5 = .pointer (some ⟨gb, 0, none⟩) := hag.kept 5 (by kernel_rfl)
        have ag6 : x6 = .int .i64 k := hag.kept 6 (by kernel_rfl)
        have ag7 : x7 = .int .i64 m := hag.kept 7 (by kernel_rfl)
        have ag8 : x8 = .slice (some ⟨w.heap.size, 0, none⟩) m m := hag.kept 8 (by kernel_rfl)
        have ag9 : x9 = .slice (some ⟨w.heap.size, 0, none⟩) m m := hag.kept 9 (by kernel_rfl)
        have ag10 : x10 = .int .i64 m := hag.kept 10 (by kernel_rfl)
        have ag11 : x11 = .int .i64 k := hag.kept 11 (by kernel_rfl)
        have ag12 : x12 = .bool true := hag.kept 12 (by kernel_rfl)
        have ag13 : x13 = .int .i64 k := hag.kept 13 (by kernel_rfl)
        have ag20 : x20 = undef := hag.kept 20 (by kernel_rfl)
        have ag21 : x21 = undef := hag.kept 21 (by kernel_rfl)
        have ag22 : x22 = undef := hag.kept 22 (by kernel_rfl)
        have ag23 : x23 = undef := hag.kept 23 (by kernel_rfl)
        have ag24 : x24 = undef := hag.kept 24 (by kernel_rfl)
        clear hag
        subst ag0 ag1 ag2 ag3 ag4 ag5 ag6 ag7 ag8 ag9 ag10 ag11 ag12 ag13 ag20 ag21 ag22 ag23 ag24
        have ou : w1.ownsRow wr.heap.size 3 1 x17 m ((List.replicate m 0).flatMap cInt) := hd 3 (by kernel_rfl) _ rfl
        have e1 : x18 = .pointer (some ⟨w.heap.size, k, none⟩) := hd 4 (by kernel_rfl) _ rfl
        subst e1
        obtain ⟨Au, cu, rfl, _, _⟩ := (RdS.of_own ou).form
        obtain ⟨go, cgo, e1, _, hgo2, ⟨u0, hc0⟩, hf0, hput⟩ := hrw.put hz (by simp; omega) hJ (r := List.replicate m 0) (by rw [List.length_replicate]; exact ou) (k := k) (by rw [rowsK_len hk]; exact hlt)
        injection e1 with e1 e2 e3
        injection e1 with e1
        injection e1 with e1
        subst e1
        clear e2 e3
        rw [← rowsK_succ hlt] at hput
        have H := Lib.hid hput
        have HL : Hid (Loc (w1.setCell ⟨w.heap.size, k, none⟩ (.slice Au m cu)) gb [.slice (some ⟨w.heap.size, 0, none⟩) m m]) := (Lb.below hJ).far (by omega)
        have HB : Hid (Below w.heap.size w (w1.setCell ⟨w.heap.size, k, none⟩ (.slice Au m cu))) := (hb.trans (hJ.mono hz)).setCell (Nat.le_refl _) _
        have HZ : Hid (gb < (w1.setCell ⟨w.heap.size, k, none⟩ (.slice Au m cu)).heap.size) := by have := hJ.size; show gb < _; rw [World.size_setCell]; omega
        clear hput ou hJ hd
        change wpList _ _ _ [_] _ _
        go_wp2_with fail
        go_roundw
        case rel => exact ⟨k + 1, by omega, by go_num, H.out, HL.out, HZ.out, HB.out⟩
        case measure => simp [intOf]; omega
    · obtain rfl : k = m := by omega
      rw [rowsK_end] at hrw
      obtain ⟨S, hS1, hS2, hS3⟩ := hrw
      have hbx := (Lb 0 _ rfl).1
      go_wp2_with (go_at_call 166; refine (followTw_any k _ cs w _ h0 hb hm (by omega) HCS.out gb S _ hbx hS1 hS2.1 (fun hm => hS3 gb hm (by simp)) hS2.2).mono ?_; rintro e w2 ⟨v2, rfl, own2, hrw2, hbx2, hb2⟩)
      have hz2 : wr.heap.size ≤ w2.heap.size := by
        obtain ⟨g, cg, e⟩ := own_form own2 (by rw [orderF_len]; omega)
        have := own2.lt g (by rw [e]; rfl)
        omega
      go_wp2_with fail
      go_ret
      exact ⟨_, rfl, ⟨S, hrw2, fresh_mono hS2 (Nat.le_refl _) hz2, fun b _ => by simp⟩, hb2⟩
open Go.RowKit
theorem RowsX.apart {T T' : List Nat} {B : Nat} {w : World} {v : Value} {ll : List (List Int)} (h : RowsX T B w v ll) (hw : ∀ b ∈ T', w.heap.size ≤ b) : RowsX T' B w v ll := by
 obtain ⟨S, h1, h2, _⟩ := h
 exact ⟨S, h1, h2, fun b hb hb' => by have := (h2.2 b hb).2; have := hw b hb'; omega⟩
theorem RdRows.cellT {w : World} {v : Value} {ll : List (List Int)} {m : Nat} (h : RdRows w v ll) (hq : Sq m ll) {a b : Nat} (ha : a < m) (hb : b < m) :
  ∃ go oo co g off c, v = .slice (some ⟨go, oo, none⟩) m co ∧ w.cell? ⟨go, oo + a, none⟩ = some (.slice (some ⟨g, off, none⟩) m c) ∧ w.cell? ⟨g, off + b, none⟩ = some (.int .i64 (cellT ll a b)) := by
 obtain ⟨h1, h2, h3⟩ := hq.at_ ha
 have h4 : b < (ll[a]).length := by rw [h2]; exact hb
 obtain ⟨A, co, rfl, _, _⟩ := h.form
 obtain ⟨go, oo, u, rfl, _, c1, hu⟩ := h.cell h1
 obtain ⟨Au, cu, rfl, _, _⟩ := hu.form
 obtain ⟨g, off, rfl, _, hc⟩ := hu.cell (k := b) cInt_len (by omega) h4
 have c2 := hc 0 _ rfl
 simp only [Nat.add_zero, Nat.mul_one] at c2
 rw [cellT_at h1 h4]
 refine ⟨go, oo, co, g, off, cu, by rw [hq.len], ?_, c2⟩
 rw [c1, h2]
theorem RdRows.pairAt {w : World} {v : Value} {ll : List (List Int)} (h : RdRows w v ll) {k : Nat} (hk : k < ll.length) {x y : Int} (hp : ll[k] = [x, y]) :
  ∃ go oo co g off c, v = .slice (some ⟨go, oo, none⟩) ll.length co ∧ w.cell? ⟨go, oo + k, none⟩ = some (.slice (some ⟨g, off, none⟩) 2 c) ∧ w.cell? ⟨g, off, none⟩ = some (.int .i64 x) ∧ w.cell? ⟨g, off + 1, none⟩ = some (.int .i64 y) := by
 obtain ⟨A, co, rfl, _, _⟩ := h.form
 obtain ⟨go, oo, u, rfl, _, c1, hu⟩ := h.cell hk
 rw [hp] at hu
 obtain ⟨Au, cu, rfl, _, _⟩ := hu.form
 obtain ⟨g, off, rfl, _, hc⟩ := hu.cell (k := 0) cInt_len (by omega) (by simp)
 obtain ⟨g2, off2, e, _, hc2⟩ := hu.cell (k := 1) cInt_len (by omega) (by simp)
 injection e with e
 injection e with e1 e2
 subst e1 e2
 have c2 := hc 0 _ rfl
 have c3 := hc2 0 _ rfl
 simp only [Nat.add_zero, Nat.mul_one] at c2 c3
 exact ⟨go, oo, co, g, off, cu, rfl, c1, c2, c3⟩
theorem woundTo_49 {ll : List (List Int)} {m q q2 : Nat} (hm : m ≤ 7) (hq : q ≤ m) (hq2 : q2 ≤ m) : (woundTo ll m q ++ woundR ll q q2).length ≤ 60 := by
 rw [List.length_append]
 have h1 := woundTo_len ll m q
 have h2 := woundR_len ll q q2
 have : q * m ≤ 7 * 7 := Nat.mul_le_mul (by omega) hm
 omega
set_option maxHeartbeats 8000000 in
set_option maxRecDepth 100000 in
theorem implWound_any (m : Nat) (v : Value) (cs : List RCross) (w : World) (h : RdL cCross 2 w v cs) (hqc : crossesB m cs = true) :
  Calls Tryz.prog 103 #[.int .i64 m, v] w fun e w' => ∃ v', e = .returned v' ∧ RowsX [] w.heap.size w' v' (woundL m cs) ∧ Below w.heap.size w w' := by
 have h0 := h
 obtain ⟨A, c, rfl, h1, h2⟩ := h.form
 obtain ⟨hn, hlen, hcs⟩ := crosses_len hqc
 have hm : 1 ≤ m ∧ m ≤ 7 := by omega
 obtain ⟨iR, hiR, hzR0, hzR1, hzR2⟩ := info_parts infoRow
 have HQ := Lib.hid hqc
 have HSQ := Lib.hid (twL_sq hcs)
 clear hcs hqc hn
 have hC := implCrossesOk_any m _ cs w h0
 rw [HQ.out] at hC
 go_enter Tryz.func103, Tryz.ntmps103
 go_wp2_with fail
 refine hC.mono ?_
 rintro e w1 ⟨rfl, hb1⟩
 have hz1 := hb1.size
 have hrd1 := h0.below hb1
 clear hC
 go_wp2_with fail
 refine (implTwists_any m _ cs w1 hrd1 HQ.out).mono ?_
 rintro e w2 ⟨vt, rfl, ⟨St, ht, hft, _⟩, hb2⟩
 have hz2 := hb2.size
 have hxw : RowsX St w.heap.size (w2.alloc (.cells #[] 26)) (.slice (some ⟨w2.heap.size, 0, none⟩) 0 0) [] := RowsX.empty (by omega) (fun b hb => (hft.2 b hb).2)
 have htw := ht.below ((Below.refl _ _).alloc (Nat.le_refl _) (.cells #[] 26))
 have hbw : Below w.heap.size w (w2.alloc (.cells #[] 26)) := (bl_trans hb1 hb2).alloc (by omega) _
 have hSt : ∀ b ∈ St, b < (w2.alloc (.cells #[] 26)).heap.size := fun b hb => by have := (hft.2 b hb).2; simp; omega
 have hsn := hft.1
 clear hrd1 ht hft hb1 hb2
 obtain ⟨At, ct, rfl, _, _⟩ := htw.rd.form
 rw [HSQ.out.len] at htw
 (try rw [HSQ.out.len])
 go_upto_region 4 with (fail)
 have HWL : Hid (woundL m cs = woundTo (twL m cs) m m) := rfl
 generalize twL m cs = tw at *
 obtain ⟨W0, hW0⟩ : ∃ W0, w2.alloc (.cells #[] 26) = W0 := ⟨_, rfl⟩
 rw [hW0] at hxw htw hbw hSt ⊢
 clear hW0
 have hunf : woundL m cs = woundTo tw m m := HWL.out
 have HF := Lib.hid hunf
 clear hunf HWL
 go_wp2_with fail
 go_loopw [6, 7, 8, 18] (fun p _ _ i wr => ∃ q : Nat, q ≤ m ∧ i = .int .i64 q ∧ RowsX St w.heap.size wr p (woundTo tw m q) ∧ OwRows 26 3 wr St (.slice At m ct) tw ∧ W0.heap.size ≤ wr.heap.size ∧ Below w.heap.size w wr) (fun _ _ _ i _ => m - (intOf i).toNat)
 case atStart => exact ⟨0, Nat.zero_le _, rfl, hxw, htw, Nat.le_refl _, hbw⟩
 case round =>
  obtain ⟨q, hq, rfl, hx, ht, hzW, hb⟩ := hrel
  clear hxw htw hbw
  by_cases hlt : q < m
  ·obtain ⟨Ap, cp, rfl, _, _⟩ := hx.rd.form
   have hx' : RowsX St w.heap.size wr (.slice Ap (woundTo tw m q).length cp) (woundTo tw m q ++ woundR tw q (q + 1)) := by rw [woundR_start, List.append_nil]; exact hx
   clear hx
   go_wp2_with fail
   go_loopw [6, 8] (fun p i wr => ∃ q2 : Nat, (q < q2 ∧ q2 ≤ m) ∧ i = .int .i64 q2 ∧ RowsX St w.heap.size wr p (woundTo tw m q ++ woundR tw q q2) ∧ OwRows 26 3 wr St (.slice At m ct) tw ∧ W0.heap.size ≤ wr.heap.size ∧ Below w.heap.size w wr) (fun _ i _ => m - (intOf i).toNat)
   case atStart => exact ⟨q + 1, ⟨by omega, by omega⟩, by go_num, hx', ht, hzW, hb⟩
   case round =>
    obtain ⟨q2, ⟨hq2, hq2'⟩, rfl, hx, ht, hzW, hb⟩ := hrel
    clear hx'
    have hz := hb.size
    have hl60 := woundTo_49 (ll := tw) hm.2 (show q ≤ m by omega) hq2'
    by_cases hlt2 : q2 < m
    ·obtain ⟨go, oo, co, g, off, cu, e, c1, c2⟩ := ht.rd.cellT HSQ.out hlt hlt2
     injection e with e1 _ e3
     subst e1 e3
     have Ht := Lib.hid (fun hc => woundR_t (ll := tw) (i := q) (k := q2) hq2 hc)
     have Hf := Lib.hid (fun hc => woundR_f (ll := tw) (i := q) (k := q2) hc)
     obtain ⟨Ap, cp, rfl, _, _⟩ := hx.rd.form
     generalize cellT tw q q2 = t at *
     by_cases h0 : t = 0
     ·have hr := Hf.out h0
      have HR := Lib.hid hr
      have h0' : (t != 0) = false := by rw [bne_eq_false_iff_eq]; exact h0
      clear hr h0 Ht Hf
      go_wp2_with fail
      go_roundw
      case rel => exact ⟨q2 + 1, ⟨by omega, by omega⟩, by go_num, by rw [HR.out]; exact hx, ht, hzW, hb⟩
      case measure => simp [intOf]; omega
     ·have hr := Ht.out h0
      have HR := Lib.hid hr
      have h0' : (t != 0) = true := by rw [bne_iff_ne]; exact h0
      clear hr h0 Ht Hf
      have hbW : Below wr.heap.size wr ((wr.alloc (.cells #[.int .i64 q, .int .i64 q2] 3)).alloc (.cells #[.slice (some ⟨wr.heap.size, 0, none⟩) 2 2] 26)) := ((Below.refl _ _).alloc (Nat.le_refl _) _).alloc (by simp) _
      obtain ⟨vs, hvl, hov, hvT, hvB, hnext⟩ := hx.lit hz (fun b hb => by have := hSt b hb; omega) hbW (lit_own #[.int .i64 q, .int .i64 q2] [(q : Int), (q2 : Int)] (.cells #[.slice (some ⟨wr.heap.size, 0, none⟩) 2 2] 26) rfl (by simp))
      have htW := ht.below hbW
      have hbW2 : Below w.heap.size w ((wr.alloc (.cells #[.int .i64 q, .int .i64 q2] 3)).alloc (.cells #[.slice (some ⟨wr.heap.size, 0, none⟩) 2 2] 26)) := (hb.alloc hz _).alloc (by simp; omega) _
      rw [← hvl] at hl60
      have Hvl := Lib.hid hvl
      clear hvl hx
      go_wp2_with (at_builtin; refine wpList_appendB _ rfl (.tmp 36) (.tmp 40) _ rfl 0 26 iR _ 1 24 Tryz.underlying77 hiR hzR0 hzR1 hzR2 rfl (by omega) _ vs.length vs rfl hov _ 1 [.slice (some ⟨wr.heap.size, 0, none⟩) 2 2] rfl (rdS_newAt (wr.alloc (.cells #[.int .i64 q, .int .i64 q2] 3)) (wr.heap.size + 1) (by simp) #[.slice (some ⟨wr.heap.size, 0, none⟩) 2 2] _ 1 1 rfl (by simp [maxLen])) (by simp [Value.oneCell']) (by simp [maxLen]; omega) (by omega) (by omega) ?_; intro v4 w4 own4 gr4 at4)
      have hch := Chg.of_grown gr4
      have hx4 := Lib.hid (hnext _ _ own4 gr4 at4)
      have ht4 := Lib.hid (htW.kept hch hvT)
      have hb4 := Lib.hid (Below.chg hbW2 hch (by simp; omega) (fun b hb => (hvB b hb).1))
      have hz4 : W0.heap.size ≤ w4.heap.size := by have := hch.size; simp at this; omega
      obtain ⟨A4, c4, rfl, _, _⟩ := hx4.out.rd.form
      clear own4 gr4 at4 hch hnext hov hvT hvB
      go_wp2_with fail
      go_roundw
      case rel => exact ⟨q2 + 1, ⟨by omega, by omega⟩, by go_num, by rw [HR.out, ← List.append_assoc]; exact hx4.out, ht4.out, hz4, hb4.out⟩
      case measure => simp [intOf]; omega
    ·obtain rfl : q2 = m := by omega
     obtain ⟨Ap, cp, rfl, _, _⟩ := hx.rd.form
     go_wp2_with fail
     go_roundw
     case rel => exact ⟨q + 1, by omega, by go_num, hx, ht, hzW, hb⟩
     case measure => simp [intOf]; omega
  ·obtain rfl : q = m := by omega
   obtain ⟨Ap, cp, rfl, _, _⟩ := hx.rd.form
   go_wp2_with fail
   go_ret
   refine ⟨_, rfl, ?_, hb⟩
   rw [HF.out]
   obtain ⟨S, hS1, hS2, _⟩ := hx
   exact ⟨S, hS1, hS2, fun b _ => by simp⟩
set_option maxHeartbeats 8000000 in
set_option maxRecDepth 100000 in
theorem implTurn_any (m i k : Nat) (f : Bool) (w : World) (hik : i < k) (hk : k < m) (hm : m ≤ 7) :
  Calls Tryz.prog 164 #[.int .i64 m, .int .i64 i, .int .i64 k, .bool f] w fun e w' => ∃ v', e = .returned (.tuple #[v', .bool true]) ∧ w'.ownsRow w.heap.size 85 2 v' (turnL i k f).length ((turnL i k f).flatMap cCross) ∧ Below w.heap.size w w' := by
 obtain ⟨iX, hiX, hzX0, hzX1, hzX2⟩ := info_parts infoCross
 have hownA := World.ownsRow_made (size := 2) (e := 85) w #[] 0 (Nat.le_refl _) (by simp [maxLen]) rfl
 have hbA : Below w.heap.size w (w.alloc (.cells #[] 85)) := (Below.refl _ _).alloc (Nat.le_refl _) _
 have i1 : ¬ (i : Int) < 0 := by omega
 have i2 : ¬ (i : Int) ≥ (k : Int) := by omega
 have i3 : ¬ (k : Int) ≥ (m : Int) := by omega
 have i4 : IntKind.i64.wrap ((k : Int) - 1) = (k : Int) - 1 := IntWalk.i64_in _ (by omega)
 have i5 : IntKind.i64.wrap ((m : Int) - 1) = (m : Int) - 1 := IntWalk.i64_in _ (by omega)
 obtain ⟨d, hd⟩ : ∃ d, k = i + d + 1 := ⟨k - 1 - i, by omega⟩
 have hd1 : k - 1 - i = d := by omega
 have HT : Hid (turnL i k f = (downL i d ++ [((i : Int), f), ((i : Int), f)]) ++ upL i d) := by unfold turnL; rw [hd1]; rfl
 have hkd : (k : Int) - 1 = (i : Int) + (d : Int) := by omega
 have HK := Lib.hid hd
 clear hd
 go_enter Tryz.func164, Tryz.ntmps164
 go_wp2_with (go_at_call 83; refine (within_t (inB_iff.2 ⟨by omega, by omega⟩)).mono ?_; rintro e w' ⟨rfl, rfl⟩)
 (try rw [hkd])
 (try generalize decide ((i : Int) < 0) = b1)
 (try generalize decide ((k : Int) ≤ (i : Int)) = b2)
 (try generalize decide (k ≤ i) = b4)
 (try generalize decide (m ≤ k) = b5)
 (try generalize decide ((m : Int) ≤ (k : Int)) = b3)
 clear i1 i2 i3 i4 i5 hd1 hkd
 have hd6 : d ≤ 6 := by have := HK.out; omega
 go_loopw [10, 11] (fun p a wr => ∃ (e : Nat) (done : List RCross), e ≤ d ∧ a = .int .i64 ((i : Int) + (e : Int)) ∧ Hid (done ++ downL i e = downL i d) ∧ wr.ownsRow w.heap.size 85 2 p done.length (done.flatMap cCross) ∧ done.length + e = d ∧ Below w.heap.size w wr) (fun _ a _ => (intOf a).toNat - i)
 case atStart => exact ⟨d, [], Nat.le_refl _, rfl, rfl, hownA, by simp, hbA⟩
 case round =>
  obtain ⟨e, done, he, rfl, hdn, hown, hle, hb⟩ := hrel
  clear hownA hbA
  have hz := hb.size
  obtain ⟨Ap, cp, rfl, _, _⟩ := (RdS.of_own hown).form
  by_cases h0 : e = 0
  ·subst h0
   have hdn' : done = downL i d := by have := hdn.out; rwa [downL, List.append_nil] at this
   have HD := Lib.hid hdn'
   have hdl : done.length ≤ 7 := by omega
   clear hdn hdn' hle
   rw [show (i : Int) + ((0 : Nat) : Int) = (i : Int) from Int.add_zero _]
   go_wp2_with (at_builtin; refine wpList_appendB _ rfl (.tmp 43) (.tmp 50) _ rfl w.heap.size 85 iX _ 2 16 Tryz.underlying32 hiX hzX0 hzX1 hzX2 rfl (by omega) _ done.length (done.flatMap cCross) rfl (hown.alloc _) _ 2 [.int .i64 i, .bool f, .int .i64 i, .bool f] rfl (rdS_new wr #[.int .i64 i, .bool f, .int .i64 i, .bool f] _ 2 2 rfl (by simp [maxLen])) (by simp [Value.oneCell']) (by simp [maxLen]; omega) (by omega) (by simp; omega) ?_; intro v4 w4 own4 gr4 at4)
   have hb4 := below_own (hown.alloc _) gr4 (by simp; omega)
   have hb5 : Below w.heap.size w w4 := (hb.alloc hz _).trans hb4
   have own5 : w4.ownsRow w.heap.size 85 2 v4 (done ++ [((i : Int), f), ((i : Int), f)]).length ((done ++ [((i : Int), f), ((i : Int), f)]).flatMap cCross) := by rw [List.length_append, List.flatMap_append]; exact own4
   have HL : Hid ((done ++ [((i : Int), f), ((i : Int), f)]).length = done.length + 2) := by show _ = _; rw [List.length_append]; rfl
   obtain ⟨A4, c4, rfl, _, _⟩ := (RdS.of_own own5).form
   have HT2 : Hid (turnL i k f = (done ++ [((i : Int), f), ((i : Int), f)]) ++ upL i d) := by rw [HD.out]; exact HT.out
   generalize done ++ [((i : Int), f), ((i : Int), f)] = dn at *
   have hdn9 : dn.length ≤ 9 := by rw [HL.out]; omega
   clear own4 gr4 at4 hb4 hown HD HL HT
   go_wp2_with fail
   go_loopw [10, 12] (fun p a wr => ∃ e : Nat, e ≤ d ∧ a = .int .i64 ((i : Int) + 1 + (e : Int)) ∧ wr.ownsRow w.heap.size 85 2 p (dn ++ upL i e).length ((dn ++ upL i e).flatMap cCross) ∧ Below w.heap.size w wr) (fun _ a _ => k - (intOf a).toNat)
   case atStart => exact ⟨0, Nat.zero_le _, int_eq (by simp), by rw [show dn ++ upL i 0 = dn from List.append_nil dn]; exact own5, hb5⟩
   case round =>
    obtain ⟨e, he, rfl, hown, hb⟩ := hrel
    clear own5 hb5
    have hz := hb.size
    obtain ⟨Ap, cp, rfl, _, _⟩ := (RdS.of_own hown).form
    have hlu : (dn ++ upL i e).length = dn.length + e := by rw [List.length_append, upL_len]
    have hl16 : (dn ++ upL i e).length ≤ 16 := by omega
    have HS : Hid (dn ++ upL i (e + 1) = (dn ++ upL i e) ++ [(((i + 1 + e : Nat) : Int), true)]) := by show _ = _; rw [upL, ← List.append_assoc, show i + e + 1 = i + 1 + e by omega]
    by_cases hlt : e < d
    ·have hlt' : (i : Int) + 1 + (e : Int) < (k : Int) := by have := HK.out; omega
     clear hlu
     obtain ⟨a, ha⟩ : ∃ a, i + 1 + e = a := ⟨_, rfl⟩
     have ha' : (i : Int) + 1 + (e : Int) = (a : Int) := by omega
     rw [ha] at HS
     rw [ha'] at hlt' ⊢
     clear ha'
     have HA := Lib.hid ha
     clear ha
     generalize dn ++ upL i e = du at *
     go_wp2_with (at_builtin; refine wpList_appendB _ rfl (.tmp 59) (.tmp 62) _ rfl w.heap.size 85 iX _ 2 16 Tryz.underlying32 hiX hzX0 hzX1 hzX2 rfl (by omega) _ du.length (du.flatMap cCross) rfl (hown.alloc _) _ 1 [.int .i64 a, .bool true] rfl (rdS_new wr #[.int .i64 a, .bool true] _ 2 1 rfl (by simp [maxLen])) (by simp [Value.oneCell']) (by simp [maxLen]; omega) (by omega) (by simp; omega) ?_; intro v4 w4 own4 gr4 at4)
     have hb4 := below_own (hown.alloc _) gr4 (by simp; omega)
     clear gr4 at4
     go_wp2_with fail
     go_roundw
     case rel => exact ⟨e + 1, by omega, int_eq (by have := HA.out; omega), by rw [HS.out, List.length_append, List.flatMap_append]; exact own4, (hb.alloc hz _).trans hb4⟩
     case measure => have := HA.out; simp [intOf]; omega
    ·obtain rfl : e = d := by omega
     have hlt' : ¬ (i : Int) + 1 + (e : Int) < (k : Int) := by have := HK.out; omega
     clear hlu HS
     generalize dn ++ upL i e = du at *
     go_wp2_with fail
     go_ret2
     rw [HT2.out]
     exact ⟨_, rfl, hown, hb⟩
  ·obtain ⟨e, rfl⟩ : ∃ e', e = e' + 1 := ⟨e - 1, by omega⟩
   have hgt : ((i + (e + 1) : Nat) : Int) > (i : Int) := by omega
   have HS : Hid ((done ++ [(((i + (e + 1) : Nat) : Int), false)]) ++ downL i e = downL i d) := by have := hdn.out; rw [downL] at this; rw [List.append_assoc]; exact this
   have hdl : done.length ≤ 7 := by omega
   have HLE := Lib.hid hle
   clear hdn h0 hle
   obtain ⟨a, ha⟩ : ∃ a, i + (e + 1) = a := ⟨_, rfl⟩
   have ha' : (i : Int) + ((e + 1 : Nat) : Int) = (a : Int) := by omega
   rw [ha] at hgt HS
   rw [ha']
   clear ha'
   have HA := Lib.hid ha
   have hw1 : IntKind.i64.wrap ((a : Int) - 1) = (a : Int) - 1 := IntWalk.i64_in _ (by omega)
   clear ha
   go_wp2_with (at_builtin; refine wpList_appendB _ rfl (.tmp 38) (.tmp 41) _ rfl w.heap.size 85 iX _ 2 16 Tryz.underlying32 hiX hzX0 hzX1 hzX2 rfl (by omega) _ done.length (done.flatMap cCross) rfl (hown.alloc _) _ 1 [.int .i64 a, .bool false] rfl (rdS_new wr #[.int .i64 a, .bool false] _ 2 1 rfl (by simp [maxLen])) (by simp [Value.oneCell']) (by simp [maxLen]; omega) (by omega) (by simp; omega) ?_; intro v4 w4 own4 gr4 at4)
   have hb4 := below_own (hown.alloc _) gr4 (by simp; omega)
   clear gr4 at4
   go_wp2_with fail
   go_roundw
   case rel => exact ⟨e, done ++ [((a : Int), false)], by omega, int_eq (by have := HA.out; omega), HS.out, by rw [List.length_append, List.flatMap_append]; exact own4, by rw [List.length_append]; have := HLE.out; simp; omega, (hb.alloc hz _).trans hb4⟩
   case measure => have := HA.out; simp [intOf]; omega
def RetUnw (ok : Bool) (l : List RCross) (w : World) (e : Ending) (w' : World) : Prop := ∃ v', e = .returned (.tuple #[v', .bool ok]) ∧ w'.ownsRow w.heap.size 85 2 v' l.length (l.flatMap cCross) ∧ Below w.heap.size w w'
def unwV (n : Int) (cs : List RCross) : List RCross := if unwB n cs = true then unwindL n.toNat cs else []
theorem unwB_t {m : Nat} {cs : List RCross} (h1 : crossesB m cs = true) (h2 : orderF m cs = upN m) : unwB m cs = true ∧ unwV m cs = unwindL m cs := by
 have : unwB m cs = true := by unfold unwB; rw [h1]; exact decide_eq_true h2
 exact ⟨this, by unfold unwV; rw [if_pos this]; rfl⟩
theorem unwB_f1 {n : Int} {cs : List RCross} (h : crossesB n cs = false) : unwB n cs = false ∧ unwV n cs = [] := by
 have : unwB n cs = false := by unfold unwB; rw [h]; rfl
 exact ⟨this, by unfold unwV; rw [this]; rfl⟩
theorem unwB_f2 {m : Nat} {cs : List RCross} (h2 : ¬ orderF m cs = upN m) : unwB m cs = false ∧ unwV m cs = [] := by
 have : unwB m cs = false := by unfold unwB; rw [Int.toNat_natCast, decide_eq_false h2, Bool.and_false]
 exact ⟨this, by unfold unwV; rw [this]; rfl⟩
theorem woundPair {ll : List (List Int)} {m k : Nat} (hk : k < (woundTo ll m m).length) : ∃ i j : Nat, (woundTo ll m m)[k] = [(i : Int), (j : Int)] ∧ i < j ∧ j < m := by
 obtain ⟨i, j, e, _, h1, h2, _⟩ := woundTo_mem (List.getElem_mem hk)
 exact ⟨i, j, e, h1, h2⟩
theorem unwR_pair (ll : List (List Int)) (i j : Nat) : unwR ll [(i : Int), (j : Int)] = manyL (turnL i j (decide (cellT ll i j < 0))) (timesT (cellT ll i j)) := rfl
theorem many_len {i j m : Nat} {f : Bool} {q : Nat} (hj : j < m) (hm : m ≤ 7) (hq : q ≤ 20) : (manyL (turnL i j f) q).length ≤ 400 := by
 rw [manyL_len]
 have h1 := turnL_len i j f
 have : q * (turnL i j f).length ≤ 20 * 14 := Nat.mul_le_mul hq (by omega)
 omega
theorem unwTo_len {ll ps : List (List Int)} {m : Nat} (hm : m ≤ 7) (hps : ∀ r ∈ ps, ∃ i j : Nat, r = [(i : Int), (j : Int)] ∧ i < j ∧ j < m) (hbd : ∀ i j, -40 ≤ cellT ll i j ∧ cellT ll i j ≤ 40) : (unwTo ll ps).length ≤ ps.length * 400 := by
 induction ps with
 | nil => simp [unwTo]
 | cons r ps ih =>
  unfold unwTo at ih ⊢
  rw [List.flatMap_cons, List.length_append, List.length_cons, Nat.add_mul]
  have h1 := ih (fun x hx => hps x (List.mem_cons_of_mem _ hx))
  obtain ⟨i, j, rfl, hij, hj⟩ := hps r List.mem_cons_self
  have hb := hbd i j
  have h2 : (unwR ll [(i : Int), (j : Int)]).length ≤ 400 := by rw [unwR_pair]; exact many_len hj hm (by unfold timesT; omega)
  omega
theorem wound_mem {ll : List (List Int)} {m : Nat} : ∀ r ∈ woundTo ll m m, ∃ i j : Nat, r = [(i : Int), (j : Int)] ∧ i < j ∧ j < m := fun r hr => by
 obtain ⟨i, j, e, _, h1, h2, _⟩ := woundTo_mem hr
 exact ⟨i, j, e, h1, h2⟩
theorem twL_40 {m : Nat} {cs : List RCross} (h : ∀ c ∈ cs, 0 ≤ c.1 ∧ c.1 ≤ (m : Int) - 2) (hl : cs.length ≤ 40) (i j : Nat) : -40 ≤ cellT (twL m cs) i j ∧ cellT (twL m cs) i j ≤ 40 := by
 have := twL_bd h cs.length (Nat.le_refl _) i j
 rw [List.take_length] at this
 omega
theorem unwV_len (n : Int) (cs : List RCross) : (unwV n cs).length ≤ 100000 := by
 unfold unwV
 split
 ·rename_i h
  unfold unwB at h
  rw [Bool.and_eq_true] at h
  obtain ⟨hn, hlen, hcs⟩ := crosses_len h.1
  obtain ⟨m, rfl⟩ := Int.eq_ofNat_of_zero_le (show 0 ≤ n by omega)
  have h1 := unwTo_len (ll := twL m cs) (ps := woundL m cs) (m := m) (by omega) wound_mem (twL_40 hcs (by omega))
  have h2 := woundTo_len (twL m cs) m m
  have h3 : m * m ≤ 7 * 7 := Nat.mul_le_mul (by omega) (by omega)
  have h4 : (woundL m cs).length * 400 ≤ 49 * 400 := Nat.mul_le_mul_right _ (by unfold woundL; omega)
  show (unwTo (twL m cs) (woundL m cs)).length ≤ 100000
  omega
 ·simp
theorem many_snoc (l : List RCross) (q : Nat) : manyL l (q + 1) = manyL l q ++ l := rfl
theorem rows_grow {w W w' : World} {S : List Nat} {v p p' : Value} {ll : List (List Int)} (h : OwRows 26 3 w S v ll) (hb : Below w.heap.size w W) (hS : ∀ b ∈ S, b < w.heap.size) (hap : ∀ b ∈ S, b ∉ p.ownBlock.toList) (gr : W.grownBy w' p.ownBlock) (hat : p'.ownBlock = p.ownBlock ∨ p'.ownBlock = some W.heap.size) :
  OwRows 26 3 w' S v ll ∧ ∀ b ∈ S, b ∉ p'.ownBlock.toList := by
 refine ⟨(h.below hb).chg (Chg.of_grown gr) hap, fun b hb1 hb2 => ?_⟩
 rcases hat with e | e
 ·rw [e] at hb2; exact hap b hb1 hb2
 ·rw [e] at hb2
  have h1 := hS b hb1
  have h2 := hb.size
  simp at hb2
  omega
theorem OwRows.pairAt {w : World} {S : List Nat} {v : Value} {ll : List (List Int)} (h : OwRows 26 3 w S v ll) (hS : S.Nodup) {k : Nat} (hk : k < ll.length) {x y : Int} (hp : ll[k] = [x, y]) :
  ∃ go co g c, v = .slice (some ⟨go, 0, none⟩) ll.length co ∧ w.cell? ⟨go, k, none⟩ = some (.slice (some ⟨g, 0, none⟩) 2 c) ∧ w.cell? ⟨g, 0, none⟩ = some (.int .i64 x) ∧ w.cell? ⟨g, 1, none⟩ = some (.int .i64 y) ∧ g ∈ S := by
 have hl : (ll[k]).length = 2 := by rw [hp]; rfl
 obtain ⟨go, co, g, c, e, c1, c2, _, _, n2, _, _⟩ := h.pick hS hk (b := 0) (by omega)
 obtain ⟨go', co', g', c', e', d1, d2, _, _, _, _, _⟩ := h.pick hS hk (b := 1) (by omega)
 rw [e] at e'
 injection e' with e1 _ e3
 injection e1 with e1
 injection e1 with e1
 subst e1
 rw [c1] at d1
 simp only [Option.some.injEq] at d1
 injection d1 with d1 _ d3
 injection d1 with d1
 injection d1 with d1
 subst d1
 refine ⟨go, co, g, c, e, by rw [c1, hl], ?_, ?_, n2⟩
 ·rw [c2]; simp [hp]
 ·rw [d2]; simp [hp]
theorem size_any (t : Int) (w : World) (ht : -40 ≤ t ∧ t ≤ 40) :
  Calls Tryz.prog 163 #[.int .i64 t] w fun e w' => e = .returned (.int .i64 (t.natAbs : Nat)) ∧ w = w' := by
 have hw : IntKind.i64.wrap (-t) = -t := IntWalk.i64_in _ (by omega)
 by_cases h : t < -t
 ·have e1 : ((t.natAbs : Nat) : Int) = -t := by omega
  rw [e1]
  go_enter Tryz.func163, Tryz.ntmps163
  go_wp2_with fail
  go_ret
  exact ⟨by simp <;> omega, rfl⟩
 ·have e1 : ((t.natAbs : Nat) : Int) = t := by omega
  rw [e1]
  go_enter Tryz.func163, Tryz.ntmps163
  go_wp2_with fail
  go_ret
  exact ⟨by simp <;> omega, rfl⟩
theorem act70ua {a : Act} (h : a.tmps.size = 70) (hd : a.defers = []) : ∃ x0 x1 x2 x3 x4 x5 x6 x7 x8 x9 x10 x11 x12 x13 x14 x15 x16 x17 x18 x19 x20 x21 x22 x23 x24 x25 x26 x27 x28 x29 x30 x31 x32 x33 x34 x35 x36 x37 x38 x39 x40 x41 x42 x43 x44 x45 x46 x47 x48 x49 x50 x51 x52 x53 x54 x55 x56 x57 x58 x59 x60 x61 x62 x63 x64 x65 x66 x67 x68 x69 : Value, a = ⟨#[x0, x1, x2, x3, x4, x5, x6, x7, x8, x9, x10, x11, x12, x13, x14, x15, x16, x17, x18, x19, x20, x21, x22, x23, x24, x25, x26, x27, x28, x29, x30, x31, x32, x33, x34, x35, x36, x37, x38, x39, x40, x41, x42, x43, x44, x45, x46, x47, x48, x49, x50, x51, x52, x53, x54, x55, x56, x57, x58, x59, x60, x61, x62, x63, x64, x65, x66, x67, x68, x69], []⟩ := by
 obtain ⟨⟨l⟩, d⟩ := a
 subst hd
 match l, h with
 | x0 :: x1 :: x2 :: x3 :: x4 :: x5 :: x6 :: x7 :: x8 :: x9 :: x10 :: x11 :: x12 :: x13 :: x14 :: x15 :: x16 :: x17 :: x18 :: x19 :: x20 :: x21 :: x22 :: x23 :: x24 :: x25 :: x26 :: x27 :: x28 :: x29 :: x30 :: x31 :: x32 :: x33 :: x34 :: x35 :: x36 :: x37 :: x38 :: x39 :: x40 :: x41 :: x42 :: x43 :: x44 :: x45 :: x46 :: x47 :: x48 :: x49 :: x50 :: x51 :: x52 :: x53 :: x54 :: x55 :: x56 :: x57 :: x58 :: x59 :: x60 :: x61 :: x62 :: x63 :: x64 :: x65 :: x66 :: x67 :: x68 :: x69 :: [], _ => exact ⟨x0, x1, x2, x3, x4, x5, x6, x7, x8, x9, x10, x11, x12, x13, x14, x15, x16, x17, x18, x19, x20, x21, x22, x23, x24, x25, x26, x27, x28, x29, x30, x31, x32, x33, x34, x35, x36, x37, x38, x39, x40, x41, x42, x43, x44, x45, x46, x47, x48, x49, x50, x51, x52, x53, x54, x55, x56, x57, x58, x59, x60, x61, x62, x63, x64, x65, x66, x67, x68, x69, rfl⟩
def pua (B m p q : Nat) (g cg n : Nat) (t : Int) (f : Bool) (xs : List Value) (i : Nat) (v : Value) (_ : Nat → Nat) (w : World) : Prop :=
 match i with
 | 0 => v = .int .i64 m
 | 1 => v = .slice (some ⟨g, 0, none⟩) 2 cg
 | 2 => v = .pointer (some ⟨g, 0, none⟩)
 | 3 => v = .int .i64 p
 | 4 => v = .slice (some ⟨g, 0, none⟩) 2 cg
 | 5 => v = .pointer (some ⟨g, 1, none⟩)
 | 6 => v = .int .i64 q
 | 7 => v = .int .i64 t
 | 8 => v = .bool f
 | 9 => ∃ A c, v = .tuple #[.slice A n c, .bool true] ∧ w.ownsRow B 85 2 (.slice A n c) n xs
 | 10 => ∃ A c, v = .tuple #[.slice A n c, .bool true] ∧ w.ownsRow B 85 2 (.slice A n c) n xs
 | 11 => ∃ A c, v = .slice A n c ∧ w.ownsRow B 85 2 (.slice A n c) n xs
 | 12 => v = .bool true
 | 13 => ∃ A c, v = .slice A n c ∧ w.ownsRow B 85 2 (.slice A n c) n xs
 | _ => True
set_option maxHeartbeats 8000000 in
set_option maxRecDepth 100000 in
theorem implUnwindAll_any (n : Int) (v : Value) (cs : List RCross) (w : World) (h : RdL cCross 2 w v cs) :
  Calls Tryz.prog 137 #[.int .i64 n, v] w (RetUnw (unwB n cs) (unwV n cs) w) := by
 have h0 := h
 obtain ⟨A, c, rfl, h1, h2⟩ := h.form
 obtain ⟨iX, hiX, hzX0, hzX1, hzX2⟩ := info_parts infoCross
 go_enter Tryz.func137, Tryz.ntmps137
 go_wp2_with fail
 refine twoB (implCrossesOk_any n _ cs _ h0) (fun w1 hq hb1 => ?_) (fun w1 hq hb1 => ?_)
 ·obtain ⟨hn, hlen, hcs⟩ := crosses_len hq.out
  obtain ⟨m, rfl⟩ := Int.eq_ofNat_of_zero_le (show 0 ≤ n by omega)
  have hm : 1 ≤ m ∧ m ≤ 7 := by omega
  have hz1 := hb1.size
  have hrd1 := h0.below hb1
  have HSQ := Lib.hid (twL_sq hcs)
  have HBD := Lib.hid (twL_40 hcs (by omega))
  clear hcs hn
  go_wp2_with fail
  refine twoB (implIsHome_any m _ cs w1 hrd1 hq.out) (fun w2 hh hb2 => ?_) (fun w2 hh hb2 => ?_)
  ·have HU := Lib.hid (unwB_t hq.out (of_decide_eq_true hh.out))
   have hz2 := hb2.size
   have hrd2 := hrd1.below hb2
   go_wp2_with fail
   refine (implTwists_any m _ cs w2 hrd2 hq.out).mono ?_
   rintro e w3 ⟨vt, rfl, hxt, hb3⟩
   have hz3 := hb3.size
   have ht3 := hxt.rd
   obtain ⟨At, ct, rfl, _, _⟩ := ht3.form
   rw [HSQ.out.len] at ht3
   (try rw [HSQ.out.len])
   have hrd3 := (hrd2.below hb3).below ((Below.refl _ _).alloc (Nat.le_refl _) (.cells #[] 85))
   have hb03 : Below w.heap.size w w3 := bl_trans (bl_trans hb1 hb2) hb3
   have hz03 := hb03.size
   have hownA := World.ownsRow_made (size := 2) (e := 85) w3 #[] 0 (Nat.le_refl _) (by simp [maxLen]) rfl
   clear hxt hrd2 hrd1 hb1 hb2 hb3
   go_wp2_with fail
   refine (implWound_any m _ cs _ hrd3 hq.out).mono ?_
   rintro e w4 ⟨vp, rfl, ⟨Sp, hp, hfp, _⟩, hb4⟩
   have hz4 := hb4.size
   simp at hz4
   obtain ⟨Ap, cp, rfl, _, _⟩ := hp.rd.form
   have hown4 := own_below hownA hb4
   have hb34 : Below w3.heap.size w3 w4 := Below.trans ((Below.refl _ _).alloc (Nat.le_refl _) _) (hb4.mono (by simp))
   have hap4 : Hid (∀ b ∈ Sp, b ∉ (Value.slice (some ⟨w3.heap.size, 0, none⟩) 0 0).ownBlock.toList) := fun b hb hb' => by
    have := (hfp.2 b hb).1
    simp [Value.ownBlock] at this hb'
    omega
   have hSn := hfp.1
   have hSp : ∀ b ∈ Sp, b < w4.heap.size := fun b hb => (hfp.2 b hb).2
   have HPm : Hid (∀ k (hk : k < (woundL m cs).length), ∃ i j : Nat, (woundL m cs)[k] = [(i : Int), (j : Int)] ∧ i < j ∧ j < m) := fun k hk => woundPair hk
   have HPl : Hid (∀ k, (unwTo (twL m cs) ((woundL m cs).take k)).length ≤ 49 * 400) := fun k => by
    have e1 := unwTo_len (ll := twL m cs) (ps := (woundL m cs).take k) hm.2 (fun r hr => wound_mem r (List.mem_of_mem_take hr)) HBD.out
    have h2 := woundTo_len (twL m cs) m m
    have h3 : m * m ≤ 7 * 7 := Nat.mul_le_mul (by omega) (by omega)
    have h4 : ((woundL m cs).take k).length ≤ 49 := by rw [List.length_take]; unfold woundL; omega
    have h5 := Nat.mul_le_mul_right 400 h4
    omega
   have HUL : Hid (unwindL m cs = unwTo (twL m cs) (woundL m cs)) := rfl
   have hlp : (woundL m cs).length ≤ 49 := by
    have h2 := woundTo_len (twL m cs) m m
    have h3 : m * m ≤ 7 * 7 := Nat.mul_le_mul (by omega) (by omega)
    unfold woundL; omega
   clear hownA hfp hb4 hrd3
   generalize woundL m cs = ps at *
   generalize twL m cs = tw at *
   go_wp2_with fail
   go_loopw [7, 9, 10, 11, 12, 31, 49] (fun p _ _ _ _ i _ wr => ∃ k : Nat, k ≤ ps.length ∧ i = .int .i64 k ∧ wr.ownsRow w3.heap.size 85 2 p (unwTo tw (ps.take k)).length ((unwTo tw (ps.take k)).flatMap cCross) ∧ OwRows 26 3 wr Sp (.slice Ap ps.length cp) ps ∧ Hid (∀ b ∈ Sp, b ∉ p.ownBlock.toList) ∧ w4.heap.size ≤ wr.heap.size ∧ Below w3.heap.size w3 wr) (fun _ _ _ _ _ i _ _ => ps.length - (intOf i).toNat)
   case atStart => exact ⟨0, Nat.zero_le _, rfl, hown4, hp, hap4, Nat.le_refl _, hb34⟩
   case round =>
    obtain ⟨k, hk, rfl, hown, hp, hap, hzw, hb⟩ := hrel
    clear hown4 hap4 hb34
    obtain ⟨Ao, co, rfl, _, _⟩ := (RdS.of_own hown).form
    by_cases hlt : k < ps.length
    ·obtain ⟨i, j, hpk, hij, hjm⟩ := HPm.out k hlt
     have HSN := Lib.hid (unwTo_snoc tw ps hlt)
     have HPK := Lib.hid hpk
     obtain ⟨go, cop, g, cg, e, c1, c2, c3, hgS⟩ := hp.pairAt hSn hlt hpk
     injection e with e1 _ e3
     subst e1 e3
     obtain ⟨gt, ot, cot, gr, offr, cr, e, d1, d2⟩ := (ht3.below hb).cellT HSQ.out (show i < m by omega) hjm
     injection e with e1 _ e3
     subst e1 e3
     clear hpk
     have HTT : Hid (unwR tw ps[k] = manyL (turnL i j (decide (cellT tw i j < 0))) (timesT (cellT tw i j))) := by show _ = _; rw [HPK.out, unwR_pair]
     rw [HTT.out] at HSN
     clear HTT HPK
     have htb := HBD.out i j
     generalize cellT tw i j = t at *
     have hi0 : (i : Int) < (m : Int) := by omega
     have hj0 : (j : Int) < (m : Int) := by omega
     go_wp2_with fail
     go_quiet (fail)
     rename_i nq
     have hdr := below_drewN (Below.refl wr.heap.size wr) nq
     have hownW := own_below hown hdr
     have hpW := hp.below hdr
     have hbW := below_drewN hb nq
     have hzW : w4.heap.size ≤ (wr.drewN nq).heap.size := by simp; omega
     have hc2 := carry hdr c2
     have hc3 := carry hdr c3
     have hl0 := HPl.out k
     obtain ⟨dn1, hd1⟩ : ∃ dn1, unwTo tw (ps.take (k + 1)) = dn1 := ⟨_, rfl⟩
     rw [hd1] at HSN
     have HD1 := Lib.hid hd1
     obtain ⟨N, hN⟩ : ∃ N, t.natAbs = N := ⟨_, rfl⟩
     have hSz := size_any t (wr.drewN nq) htb
     rw [timesT, hN] at HSN
     rw [hN] at hSz
     have hN40 : N ≤ 40 := by omega
     clear c1 c2 c3 d1 d2 hown hp hb hzw hN hdr hd1
     generalize wr.drewN nq = W1 at *
     generalize unwTo tw (ps.take k) = d0 at *
     go_wp2_with (go_at_call 163; refine hSz.mono ?_; rintro e w' ⟨rfl, rfl⟩)
     obtain ⟨T, hT⟩ : ∃ T, N / 2 = T := ⟨_, rfl⟩
     have hT2 : (N : Int) / 2 = (T : Int) := by omega
     rw [hT] at HSN
     rw [hT2]
     have hT20 : T ≤ 20 := by omega
     have HML : Hid (∀ a, a ≤ T → (manyL (turnL i j (decide (t < 0))) a).length ≤ 400) := fun a ha => many_len hjm hm.2 (by omega)
     have hTL : (turnL i j (decide (t < 0))).length ≤ 16 := by have := turnL_len i j (decide (t < 0)); omega
     have HTu : Hid (∀ w, Calls Tryz.prog 164 #[.int .i64 m, .int .i64 i, .int .i64 j, .bool (decide (t < 0))] w fun e w' => ∃ v', e = .returned (.tuple #[v', .bool true]) ∧ w'.ownsRow w.heap.size 85 2 v' (turnL i j (decide (t < 0))).length ((turnL i j (decide (t < 0))).flatMap cCross) ∧ Below w.heap.size w w') := fun w => implTurn_any m i j (decide (t < 0)) w hij hjm hm.2
     generalize turnL i j (decide (t < 0)) = TL at *
     have hd00 : W1.ownsRow w3.heap.size 85 2 (.slice Ao d0.length co) (d0 ++ manyL TL 0).length ((d0 ++ manyL TL 0).flatMap cCross) := by rw [show d0 ++ manyL TL 0 = d0 from List.append_nil d0]; exact hownW
     clear hSz hT hT2 hN40 hownW
     go_loopw [7, 11, 12, 49] (fun p _ _ q wr => ∃ a : Nat, a ≤ T ∧ q = .int .i64 a ∧ wr.ownsRow w3.heap.size 85 2 p (d0 ++ manyL TL a).length ((d0 ++ manyL TL a).flatMap cCross) ∧ OwRows 26 3 wr Sp (.slice (some ⟨go, 0, none⟩) ps.length cp) ps ∧ Hid (∀ b ∈ Sp, b ∉ p.ownBlock.toList) ∧ w4.heap.size ≤ wr.heap.size ∧ wr.cell? ⟨g, 0, none⟩ = some (.int .i64 i) ∧ wr.cell? ⟨g, 1, none⟩ = some (.int .i64 j) ∧ Below w3.heap.size w3 wr) (fun _ _ _ q _ => T - (intOf q).toNat)
     case atStart => exact ⟨0, Nat.zero_le _, rfl, hd00, hpW, hap, hzW, hc2, hc3, hbW⟩
     case round =>
      obtain ⟨a, ha, rfl, hown, hp, hap, hzw, c2, c3, hb⟩ := hrel
      clear hd00 hpW hzW hc2 hc3 hbW
      have hml := HML.out a ha
      obtain ⟨Ao, co, rfl, _, _⟩ := (RdS.of_own hown).form
      by_cases hlt2 : a < T
      ·have HS2 : Hid (d0 ++ manyL TL (a + 1) = (d0 ++ manyL TL a) ++ TL) := by show _ = _; rw [many_snoc, List.append_assoc]
       have hda : (d0 ++ manyL TL a).length ≤ 20000 := by rw [List.length_append]; omega
       generalize d0 ++ manyL TL a = da at *
       go_upto_region 10 with (fail)
       refine region_made (n := 70) 14 (by kernel_rfl) rfl (by kernel_rfl) (fun w' => Below wr.heap.size wr w') (fun _ => 0) (pua wr.heap.size m i j g cg TL.length t (decide (t < 0)) (TL.flatMap cCross)) (Below.refl _ _).drew ?_ ?_ ?_
       ·intro i v gh gh' w1 w2 hp hJ hb' hg
        match i, hp with
        | 0, hp => exact hp
        | 1, hp => exact hp
        | 2, hp => exact hp
        | 3, hp => exact hp
        | 4, hp => exact hp
        | 5, hp => exact hp
        | 6, hp => exact hp
        | 7, hp => exact hp
        | 8, hp => exact hp
        | 9, ⟨A', c', hv, ho⟩ => exact ⟨A', c', hv, own_below ho hb'⟩
        | 10, ⟨A', c', hv, ho⟩ => exact ⟨A', c', hv, own_below ho hb'⟩
        | 11, ⟨A', c', hv, ho⟩ => exact ⟨A', c', hv, own_below ho hb'⟩
        | 12, hp => exact hp
        | 13, ⟨A', c', hv, ho⟩ => exact ⟨A', c', hv, own_below ho hb'⟩
        | _ + 14, _ => trivial
       ·refine ⟨?_, ?_, ?_, ?_, ?_, ?_, ?_, ?_, ?_, ?_, ?_, ?_, ?_, ?_, trivial⟩
        all_goals
         intro a gh w5 hag hJ hd
         have ag0 : a.tmps.getD 0 undef = .int .i64 m := hag.kept 0 (by kernel_rfl)
         have ag9 : a.tmps.getD 9 undef = .slice (some ⟨g, 0, none⟩) 2 cg := hag.kept 9 (by kernel_rfl)
         have ag10 : a.tmps.getD 10 undef = .int .i64 t := hag.kept 10 (by kernel_rfl)
         clear hag
        ·go_wp2_with fail
         exact ⟨rfl, _, rfl, rfl, hJ, Below.refl _ _⟩
        ·go_wp2_with fail
         exact ⟨rfl, _, rfl, rfl, hJ, Below.refl _ _⟩
        ·have e0 : a.tmps.getD 53 undef = .slice (some ⟨g, 0, none⟩) 2 cg := hd 1 (by kernel_rfl) _ rfl
         go_wp2_with fail
         exact ⟨rfl, _, rfl, rfl, hJ, Below.refl _ _⟩
        ·have e0 : a.tmps.getD 54 undef = .pointer (some ⟨g, 0, none⟩) := hd 2 (by kernel_rfl) _ rfl
         have k0 := carry hJ c2
         go_wp2_with fail
         exact ⟨rfl, _, rfl, rfl, hJ, Below.refl _ _⟩
        ·go_wp2_with fail
         exact ⟨rfl, _, rfl, rfl, hJ, Below.refl _ _⟩
        ·have e0 : a.tmps.getD 56 undef = .slice (some ⟨g, 0, none⟩) 2 cg := hd 4 (by kernel_rfl) _ rfl
         go_wp2_with fail
         exact ⟨rfl, _, rfl, rfl, hJ, Below.refl _ _⟩
        ·have e0 : a.tmps.getD 57 undef = .pointer (some ⟨g, 1, none⟩) := hd 5 (by kernel_rfl) _ rfl
         have k0 := carry hJ c3
         go_wp2_with fail
         exact ⟨rfl, _, rfl, rfl, hJ, Below.refl _ _⟩
        ·go_wp2_with fail
         exact ⟨rfl, _, rfl, rfl, hJ, Below.refl _ _⟩
        ·have e0 : a.tmps.getD 59 undef = .int .i64 t := hd 7 (by kernel_rfl) _ rfl
         go_wp2_with fail
         exact ⟨rfl, _, rfl, rfl, hJ, Below.refl _ _⟩
        ·have e0 : a.tmps.getD 52 undef = .int .i64 m := hd 0 (by kernel_rfl) _ rfl
         have e1 : a.tmps.getD 55 undef = .int .i64 i := hd 3 (by kernel_rfl) _ rfl
         have e2 : a.tmps.getD 58 undef = .int .i64 j := hd 6 (by kernel_rfl) _ rfl
         have e3 : a.tmps.getD 60 undef = .bool (decide (t < 0)) := hd 8 (by kernel_rfl) _ rfl
         go_wp2_with fail
         refine (HTu.out _).mono ?_
         rintro e w6 ⟨v5, rfl, own5, hb5⟩
         obtain ⟨A5, c5, rfl, _, _⟩ := (RdS.of_own own5).form
         go_wp2_with fail
         exact ⟨rfl, _, rfl, ⟨A5, c5, rfl, own_mono own5 hJ.size⟩, bl_trans hJ hb5, hb5⟩
        ·obtain ⟨A', c', e0, ho⟩ : ∃ A c, a.tmps.getD 61 undef = .tuple #[.slice A TL.length c, .bool true] ∧ w5.ownsRow wr.heap.size 85 2 (.slice A TL.length c) TL.length (TL.flatMap cCross) := hd 9 (by kernel_rfl) _ rfl
         go_wp2_with fail
         exact ⟨rfl, _, rfl, ⟨A', c', rfl, ho⟩, hJ, Below.refl _ _⟩
        ·obtain ⟨A', c', e0, ho⟩ : ∃ A c, a.tmps.getD 51 undef = .tuple #[.slice A TL.length c, .bool true] ∧ w5.ownsRow wr.heap.size 85 2 (.slice A TL.length c) TL.length (TL.flatMap cCross) := hd 10 (by kernel_rfl) _ rfl
         go_wp2_with fail
         exact ⟨rfl, _, rfl, ⟨A', c', rfl, ho⟩, hJ, Below.refl _ _⟩
        ·obtain ⟨A', c', e0, ho⟩ : ∃ A c, a.tmps.getD 51 undef = .tuple #[.slice A TL.length c, .bool true] ∧ w5.ownsRow wr.heap.size 85 2 (.slice A TL.length c) TL.length (TL.flatMap cCross) := hd 10 (by kernel_rfl) _ rfl
         go_wp2_with fail
         exact ⟨rfl, _, rfl, rfl, hJ, Below.refl _ _⟩
        ·obtain ⟨A', c', e0, ho⟩ : ∃ A c, a.tmps.getD 62 undef = .slice A TL.length c ∧ w5.ownsRow wr.heap.size 85 2 (.slice A TL.length c) TL.length (TL.flatMap cCross) := hd 11 (by kernel_rfl) _ rfl
         go_wp2_with fail
         exact ⟨rfl, _, rfl, ⟨A', c', rfl, ho⟩, hJ, Below.refl _ _⟩
       ·intro a gh w5 hag hJ hd
        obtain ⟨x0, x1, x2, x3, x4, x5, x6, x7, x8, x9, x10, x11, x12, x13, x14, x15, x16, x17, x18, x19, x20, x21, x22, x23, x24, x25, x26, x27, x28, x29, x30, x31, x32, x33, x34, x35, x36, x37, x38, x39, x40, x41, x42, x43, x44, x45, x46, x47, x48, x49, x50, x51, x52, x53, x54, x55, x56, x57, x58, x59, x60, x61, x62, x63, x64, x65, x66, x67, x68, x69, rfl⟩ := act70ua hag.size hag.defers
        have ag0 : x0 = .int .i64 m := hag.kept 0 (by kernel_rfl)
        have ag1 : x1 = .slice A cs.length c := hag.kept 1 (by kernel_rfl)
        have ag2 : x2 = undef := hag.kept 2 (by kernel_rfl)
        have ag3 : x3 = undef := hag.kept 3 (by kernel_rfl)
        have ag4 : x4 = .slice none 0 0 := hag.kept 4 (by kernel_rfl)
        have ag5 : x5 = .bool false := hag.kept 5 (by kernel_rfl)
        have ag6 : x6 = .slice (some ⟨gt, ot, none⟩) m ct := hag.kept 6 (by kernel_rfl)
        have ag7 : x7 = .slice Ao da.length co := hag.kept 7 (by kernel_rfl)
        have ag8 : x8 = undef := hag.kept 8 (by kernel_rfl)
        have ag9 : x9 = .slice (some ⟨g, 0, none⟩) 2 cg := hag.kept 9 (by kernel_rfl)
        have ag10 : x10 = .int .i64 t := hag.kept 10 (by kernel_rfl)
        have ag13 : x13 = .int .i64 m := hag.kept 13 (by kernel_rfl)
        have ag14 : x14 = .slice A cs.length c := hag.kept 14 (by kernel_rfl)
        have ag15 : x15 = .bool true := hag.kept 15 (by kernel_rfl)
        have ag16 : x16 = .bool false := hag.kept 16 (by kernel_rfl)
        have ag17 : x17 = .bool false := hag.kept 17 (by kernel_rfl)
        have ag18 : x18 = .int .i64 m := hag.kept 18 (by kernel_rfl)
        have ag19 : x19 = .slice A cs.length c := hag.kept 19 (by kernel_rfl)
        have ag20 : x20 = .bool true := hag.kept 20 (by kernel_rfl)
        have ag21 : x21 = .bool false := hag.kept 21 (by kernel_rfl)
        have ag22 : x22 = .bool false := hag.kept 22 (by kernel_rfl)
        have ag23 : x23 = .int .i64 m := hag.kept 23 (by kernel_rfl)
        have ag24 : x24 = .slice A cs.length c := hag.kept 24 (by kernel_rfl)
        have ag25 : x25 = .slice (some ⟨gt, ot, none⟩) m ct := hag.kept 25 (by kernel_rfl)
        have ag26 : x26 = .slice (some ⟨w3.heap.size, 0, none⟩) 0 0 := hag.kept 26 (by kernel_rfl)
        have ag27 : x27 = .int .i64 m := hag.kept 27 (by kernel_rfl)
        have ag28 : x28 = .slice A cs.length c := hag.kept 28 (by kernel_rfl)
        have ag29 : x29 = .slice (some ⟨go, 0, none⟩) ps.length cp := hag.kept 29 (by kernel_rfl)
        have ag30 : x30 = .int .i64 ps.length := hag.kept 30 (by kernel_rfl)
        have ag31 : x31 = .int .i64 k := hag.kept 31 (by kernel_rfl)
        have ag32 : x32 = .bool true := hag.kept 32 (by kernel_rfl)
        have ag33 : x33 = .pointer (some ⟨go, k, none⟩) := hag.kept 33 (by kernel_rfl)
        have ag34 : x34 = .slice (some ⟨g, 0, none⟩) 2 cg := hag.kept 34 (by kernel_rfl)
        have ag35 : x35 = .slice (some ⟨gt, ot, none⟩) m ct := hag.kept 35 (by kernel_rfl)
        have ag36 : x36 = .slice (some ⟨g, 0, none⟩) 2 cg := hag.kept 36 (by kernel_rfl)
        have ag37 : x37 = .pointer (some ⟨g, 0, none⟩) := hag.kept 37 (by kernel_rfl)
        have ag38 : x38 = .int .i64 i := hag.kept 38 (by kernel_rfl)
        have ag39 : x39 = .pointer (some ⟨gt, ot + i, none⟩) := hag.kept 39 (by kernel_rfl)
        have ag40 : x40 = .slice (some ⟨gr, offr, none⟩) m cr := hag.kept 40 (by kernel_rfl)
        have ag41 : x41 = .slice (some ⟨g, 0, none⟩) 2 cg := hag.kept 41 (by kernel_rfl)
        have ag42 : x42 = .pointer (some ⟨g, 1, none⟩) := hag.kept 42 (by kernel_rfl)
        have ag43 : x43 = .int .i64 j := hag.kept 43 (by kernel_rfl)
        have ag44 : x44 = .pointer (some ⟨gr, offr + j, none⟩) := hag.kept 44 (by kernel_rfl)
        have ag45 : x45 = .int .i64 t := hag.kept 45 (by kernel_rfl)
        have ag46 : x46 = .int .i64 t := hag.kept 46 (by kernel_rfl)
        have ag47 : x47 = .int .i64 N := hag.kept 47 (by kernel_rfl)
        have ag48 : x48 = .int .i64 T := hag.kept 48 (by kernel_rfl)
        have ag49 : x49 = .int .i64 a := hag.kept 49 (by kernel_rfl)
        have ag50 : x50 = .bool true := hag.kept 50 (by kernel_rfl)
        have ag68 : x68 = u68 := hag.kept 68 (by kernel_rfl)
        have ag69 : x69 = undef := hag.kept 69 (by kernel_rfl)
        clear hag
        subst ag0 ag1 ag2 ag3 ag4 ag5 ag6 ag7 ag8 ag9 ag10 ag13 ag14 ag15 ag16 ag17 ag18 ag19 ag20 ag21 ag22 ag23 ag24 ag25 ag26 ag27 ag28 ag29 ag30 ag31 ag32 ag33 ag34 ag35 ag36 ag37 ag38 ag39 ag40 ag41 ag42 ag43 ag44 ag45 ag46 ag47 ag48 ag49 ag50 ag68 ag69
        obtain ⟨A5, c5, e0, own5⟩ : ∃ A c, x11 = .slice A TL.length c ∧ w5.ownsRow wr.heap.size 85 2 (.slice A TL.length c) TL.length (TL.flatMap cCross) := hd 13 (by kernel_rfl) _ rfl
        have e2 : x63 = .bool true := hd 12 (by kernel_rfl) _ rfl
        subst e0 e2
        change wpList _ _ _ [_] _ _
        have hb5' : Below wr.heap.size wr w5 := hJ
        have hown5 := own_below hown hb5'
        have hz5 := hb5'.size
        have hz3' := hb.size
        have c2' := carry hb5' c2
        have c3' := carry hb5' c3
        have hbw5 : Below w3.heap.size w3 w5 := bl_trans hb hb5'
        clear c2 c3
        go_wp2_with (at_builtin; refine wpList_appendB _ rfl (.tmp 64) (.tmp 65) _ rfl w3.heap.size 85 iX _ 2 16 Tryz.underlying32 hiX hzX0 hzX1 hzX2 rfl (by omega) _ da.length (da.flatMap cCross) rfl hown5 _ TL.length (TL.flatMap cCross) rfl (RdS.of_own own5) (oneCell_flat cCross_one TL) (by simp [maxLen]; omega) (by omega) (by omega) ?_; intro v6 w6 own6 gr6 at6)
        have hch := Chg.of_grown gr6
        obtain ⟨hp6, hap6⟩ := rows_grow hp hb5' (fun b hb => by have := hSp b hb; omega) hap.out gr6 at6
        have hz6 := gr6.size
        have c2'' := carryChg hch c2' (hap.out g hgS)
        have c3'' := carryChg hch c3' (hap.out g hgS)
        have hb6 : Below w3.heap.size w3 w6 := hbw5.trans (below_own hown5 gr6 (by omega))
        have HAP := Lib.hid hap6
        obtain ⟨A6, c6, rfl, _, _⟩ := (RdS.of_own own6).form
        clear gr6 at6 hch hap6 hown5 own5 hb5' hJ hd
        go_wp2_with fail
        go_roundw
        case rel => exact ⟨a + 1, by omega, by go_num, by rw [HS2.out, List.length_append, List.flatMap_append]; exact own6, hp6, HAP.out, by omega, c2'', c3'', hb6⟩
        case measure => simp [intOf]; omega
      ·obtain rfl : a = T := by omega
       rw [← HSN.out] at hown hap ⊢
       go_wp2_with fail
       go_roundw
       case rel => exact ⟨k + 1, by omega, by go_num, by rw [HD1.out]; exact hown, hp, hap, hzw, hb⟩
       case measure => simp [intOf]; omega
    ·obtain rfl : k = ps.length := by omega
     rw [List.take_length] at hown ⊢
     go_wp2_with fail
     go_ret2
     rw [HU.out.1, HU.out.2, HUL.out]
     exact ⟨_, rfl, own_mono hown hz03, hb03.trans (hb.mono hz03)⟩
  ·have hno : ¬ orderF m cs = upN m := of_decide_eq_false hh.out
   have HU := Lib.hid (unwB_f2 hno)
   clear hno
   go_wp2_with fail
   go_ret2
   rw [HU.out.1, HU.out.2]
   exact ⟨_, rfl, World.ownsRow_nil _ _ _ _, bl_trans hb1 hb2⟩
 ·have HU := Lib.hid (unwB_f1 hq.out)
  go_wp2_with fail
  go_ret2
  rw [HU.out.1, HU.out.2]
  exact ⟨_, rfl, World.ownsRow_nil _ _ _ _, hb1⟩
open Go.RowKit
def pairAt (o : List Int) (c : RCross) : List Int := if c.2 = true then [o.getD c.1.toNat 0, o.getD (c.1.toNat + 1) 0] else [o.getD (c.1.toNat + 1) 0, o.getD c.1.toNat 0]
def pairsTo (n : Nat) (cs : List RCross) : Nat → List (List Int)
 | 0 => []
 | k + 1 => pairsTo n cs k ++ [pairAt (orderF n (cs.take k)) (cs.getD k (0, false))]
theorem pairsTo_len (n : Nat) (cs : List RCross) (k : Nat) : (pairsTo n cs k).length = k := by
 induction k with
 | zero => rfl
 | succ k ih => rw [pairsTo, List.length_append, ih]; rfl
theorem pairsTo_at (n : Nat) (cs : List RCross) : ∀ (k i : Nat) (h : i < (pairsTo n cs k).length), (pairsTo n cs k)[i] = pairAt (orderF n (cs.take i)) (cs.getD i (0, false)) := by
 intro k
 induction k with
 | zero => intro i h; simp [pairsTo] at h
 | succ k ih =>
  intro i h
  rw [pairsTo_len] at h
  by_cases hi : i < k
  ·have h2 : i < (pairsTo n cs k).length := by rw [pairsTo_len]; exact hi
   simp only [pairsTo]
   rw [List.getElem_append_left h2, ih]
  ·obtain rfl : i = k := by omega
   simp only [pairsTo]
   rw [List.getElem_append_right (by rw [pairsTo_len]; exact Nat.le_refl _)]
   simp [pairsTo_len]
theorem getD_cross (cs : List RCross) {k : Nat} (h : k < cs.length) : cs.getD k (0, false) = cs[k] := by rw [List.getD_eq_getElem?_getD, List.getElem?_eq_getElem h]; rfl
set_option maxHeartbeats 8000000 in
set_option maxRecDepth 100000 in
theorem specPairsOf_any (m : Nat) (v : Value) (cs : List RCross) (w : World) (h : RdL cCross 2 w v cs) (hqc : crossesB m cs = true) :
  Calls Tryz.prog 139 #[.int .i64 m, v] w fun e w' => ∃ v', e = .returned v' ∧ RowsX [] w.heap.size w' v' (pairsTo m cs cs.length) ∧ Below w.heap.size w w' := by
 have h0 := h
 obtain ⟨A, c, rfl, h1, h2⟩ := h.form
 obtain ⟨hn, hlen, hcs⟩ := crosses_len hqc
 have hm : 1 ≤ m ∧ m ≤ 7 := by omega
 obtain ⟨iR, hiR, hzR0, hzR1, hzR2⟩ := info_parts infoRow
 have hxa : RowsX [] w.heap.size (w.alloc (.cells #[] 26)) (.slice (some ⟨w.heap.size, 0, none⟩) 0 0) [] := RowsX.empty (Nat.le_refl _) (fun b hb => by simp at hb)
 have hba : Below w.heap.size w (w.alloc (.cells #[] 26)) := (Below.refl _ _).alloc (Nat.le_refl _) _
 have hC := specCrossesOk_any m _ cs _ (h0.below hba)
 rw [hqc] at hC
 have Hcs := Lib.hid hcs
 clear hcs hqc hn
 go_enter Tryz.func139, Tryz.ntmps139
 go_wp2_with fail
 refine hC.mono ?_
 rintro e w1 ⟨rfl, hb1⟩
 have hx1 := hxa.below hb1
 have hb01 : Below w.heap.size w w1 := bl_trans hba hb1
 clear hC hxa hba hb1
 go_wp2_with fail
 refine (l08Start_any m w1 (by omega)).mono ?_
 rintro e w2 ⟨v2, rfl, own2, hb2⟩
 have hx2 := hx1.below hb2
 have hb02 : Below w.heap.size w w2 := bl_trans hb01 hb2
 have hq2 : w2.ownsRow 0 3 1 v2 (orderF m (cs.take 0)).length ((orderF m (cs.take 0)).flatMap cInt) := own_mono own2 (Nat.zero_le _)
 have hap2 : Hid (Apart v2 (.slice (some ⟨w.heap.size, 0, none⟩) 0 0)) := fun b hb hb' => by
  have h1 := (own_lt own2 b hb).1
  have h2 := hb01.size
  obtain ⟨S, ⟨vs, _, ho, _, rfl⟩, hf, _⟩ := hx1
  have h3 := (hf.2 b (List.mem_append_left _ hb')).2
  omega
 obtain ⟨A2, c2, rfl, _, _⟩ := (RdS.of_own own2).form
 clear own2 hb2 hx1 hb01
 have hol0 : (upN m).length = (orderF m (cs.take 0)).length := rfl
 rw [hol0]
 rw [hol0] at hq2 hap2
 clear hol0
 go_wp2_with fail
 go_loopw [5, 6, 7, 8, 9] (fun p q i _ _ wr => ∃ k : Nat, k ≤ cs.length ∧ i = .int .i64 k ∧ RowsX [] w.heap.size wr p (pairsTo m cs k) ∧ wr.ownsRow 0 3 1 q (orderF m (cs.take k)).length ((orderF m (cs.take k)).flatMap cInt) ∧ Hid (Apart q p) ∧ Below w.heap.size w wr) (fun _ _ i _ _ _ => cs.length - (intOf i).toNat)
 case atStart => exact ⟨0, Nat.zero_le _, rfl, hx2, hq2, hap2, hb02⟩
 case round =>
  obtain ⟨k, hk, rfl, hx, hq, hap, hb⟩ := hrel
  clear hx2 hq2 hap2 hb02
  have hz := hb.size
  have hpl := pairsTo_len m cs k
  have hpl40 : (pairsTo m cs k).length ≤ 40 := by omega
  clear hpl
  have hrq : RdL cInt 1 wr _ (orderF m (cs.take k)) := RdS.of_own hq
  obtain ⟨Ap, cp, rfl, _, _⟩ := hx.rd.form
  obtain ⟨Aq, cq, rfl, _, _⟩ := hrq.form
  by_cases hlt : k < cs.length
  ·have hr := h0.below hb
   obtain ⟨g, off, rfl, hg, hc⟩ := hr.cell cCross_len (by omega) hlt
   have k0 := hc 0 _ rfl
   have k1 := hc 1 _ rfl
   simp only [Nat.add_zero] at k0 k1
   clear hc
   have hcb := Hcs.out _ (List.getElem_mem hlt)
   have hsn := orderF_snoc m hlt
   have hord : IsOrd m (orderF m (cs.take k)) := IsOrd.order (fun c hc => Hcs.out c (List.mem_of_mem_take hc))
   have hol := hord.len
   have Hok := Lib.hid (hord.okB hm)
   have HP : Hid (pairsTo m cs (k + 1) = pairsTo m cs k ++ [pairAt (orderF m (cs.take k)) cs[k]]) := by show pairsTo m cs k ++ _ = _; rw [getD_cross cs hlt]
   obtain ⟨a, ha⟩ := Int.eq_ofNat_of_zero_le hcb.1
   have ha1 : a + 1 < m := by omega
   rw [ha] at k0 hcb
   rw [ha, show ((a : Nat) : Int).toNat = a from rfl] at hsn
   have Hsn := Lib.hid hsn
   clear hsn hord hcb
   obtain ⟨cc, hcc⟩ : ∃ cc, cs[k] = cc := ⟨_, rfl⟩
   rw [hcc] at k1 HP ha
   have HCC0 := Lib.hid hcc
   obtain ⟨ca, f⟩ := cc
   simp only at ha k1
   subst ha
   have HCC : Hid ((cs[k]).1 = (a : Int)) := by show _ = _; rw [HCC0.out]
   clear hcc HCC0
   generalize orderF m (cs.take k) = o at *
   have hal : a + 1 < o.length := by omega
   obtain ⟨g1, o1, rfl, _, hc1⟩ := hrq.cell (k := a) cInt_len (by omega) (by omega)
   obtain ⟨g2, o2, e', _, hc2⟩ := hrq.cell (k := a + 1) cInt_len (by omega) hal
   injection e' with e'
   injection e' with e1 e2
   subst e1 e2
   have q1 := hc1 0 _ rfl
   have q2 := hc2 0 _ rfl
   simp only [Nat.add_zero, Nat.mul_one] at q1 q2
   clear hc1 hc2
   have HX : Hid (pairAt o ((a : Int), f) = if f = true then [o[a], o[a + 1]] else [o[a + 1], o[a]]) := by
    unfold pairAt
    simp only [Int.toNat_natCast]
    rw [getD_get o a (by omega), getD_get o (a + 1) hal]
    rfl
   have Hal : Hid (a + 1 < o.length) := hal
   have Hlen2 := Lib.hid (swapL_len o a)
   have e1 : ((a : Int) + 1).toNat = a + 1 := by omega
   have i1 : (a : Int) < o.length := by omega
   have i2 : (a : Int) + 1 < o.length := by omega
   have hw := IntWalk.i64_in ((a : Int) + 1) (by omega)
   generalize hy : o[a + 1] = y at *
   generalize hxx : o[a] = x at *
   clear hy hxx hol hal hrq
   cases f
   ·rw [if_neg (by simp)] at HX
    rw [HX.out] at HP
    clear HX
    have hbW : Below wr.heap.size wr ((wr.alloc (.cells #[.int .i64 y, .int .i64 x] 3)).alloc (.cells #[.slice (some ⟨wr.heap.size, 0, none⟩) 2 2] 26)) := ((Below.refl _ _).alloc (Nat.le_refl _) _).alloc (by simp) _
    obtain ⟨vs, hvl, hov, hvT, hvB, hnext⟩ := hx.lit hz (fun b hb => by simp at hb) hbW (lit_own #[.int .i64 y, .int .i64 x] [y, x] (.cells #[.slice (some ⟨wr.heap.size, 0, none⟩) 2 2] 26) rfl (by simp))
    have hqW := own_below hq hbW
    have hbW2 : Below w.heap.size w ((wr.alloc (.cells #[.int .i64 y, .int .i64 x] 3)).alloc (.cells #[.slice (some ⟨wr.heap.size, 0, none⟩) 2 2] 26)) := (hb.alloc hz _).alloc (by simp; omega) _
    have hrW := hr.below hbW
    rw [← hvl] at hpl40
    have HN := Lib.hid hnext
    clear hvl hx hnext hr
    go_upto_region 13 with (at_builtin; refine wpList_appendB _ rfl (.tmp 49) (.tmp 53) _ rfl 0 26 iR _ 1 24 Tryz.underlying77 hiR hzR0 hzR1 hzR2 rfl (by omega) _ vs.length vs rfl hov _ 1 [.slice (some ⟨wr.heap.size, 0, none⟩) 2 2] rfl (rdS_newAt (wr.alloc (.cells #[.int .i64 y, .int .i64 x] 3)) (wr.heap.size + 1) (by simp) #[.slice (some ⟨wr.heap.size, 0, none⟩) 2 2] _ 1 1 rfl (by simp [maxLen])) (by simp [Value.oneCell']) (by simp [maxLen]; omega) (by omega) (by omega) ?_; intro v4 w4 own4 gr4 at4)
    have hch := Chg.of_grown gr4
    have hx4 := HN.out _ _ own4 gr4 at4
    rw [← HP.out] at hx4
    have hq4 := own_chg hqW hch (fun b hb hb' => hap.out b hb hb')
    have hb4 := Below.chg hbW2 hch (by simp; omega) (fun b hb => (hvB b hb).1)
    have hz4 := hb4.size
    have hlt4 := (RdS.of_own hq4)
    obtain ⟨gc, oc, e, _, hcc⟩ := (h0.below hb4).cell cCross_len (by omega) hlt
    injection e with e
    injection e with e1 e2
    subst e1 e2
    have k0 := hcc 0 _ rfl
    simp only [Nat.add_zero] at k0
    rw [HCC.out] at k0
    clear own4 gr4 at4 hch hov hvT hvB hcc hqW hq hap
    obtain ⟨A4, c4, rfl, _, _⟩ := hx4.rd.form
    go_wp2_with fail
    refine (specSwap_any _ o a _ hlt4 Hok.out Hal.out).mono ?_
    rintro e w5 ⟨v5, rfl, own5, hb5⟩
    have hx5 := hx4.below hb5
    have hap5 : Hid (Apart v5 (.slice A4 (pairsTo m cs (k + 1)).length c4)) := fun b hb hb' => by
     have h1 := (own_lt own5 b hb).1
     obtain ⟨S, ⟨vs, _, ho, _, rfl⟩, hf, _⟩ := hx4
     have h3 := (hf.2 b (List.mem_append_left _ hb')).2
     omega
    have hb5' : Below w.heap.size w w5 := bl_trans hb4 hb5
    obtain ⟨A5, c5, rfl, _, _⟩ := (RdS.of_own own5).form
    have HX5 := Lib.hid hx5
    clear hx4 hx5 hb5 hq4 hlt4
    go_wp2_with fail
    go_roundw
    case rel => exact ⟨k + 1, by omega, by go_num, HX5.out, by rw [Hsn.out, Hlen2.out]; exact own_mono own5 (Nat.zero_le _), hap5, hb5'⟩
    case measure => simp [intOf]; omega
   ·rw [if_pos rfl] at HX
    rw [HX.out] at HP
    clear HX
    have hbW : Below wr.heap.size wr ((wr.alloc (.cells #[.int .i64 x, .int .i64 y] 3)).alloc (.cells #[.slice (some ⟨wr.heap.size, 0, none⟩) 2 2] 26)) := ((Below.refl _ _).alloc (Nat.le_refl _) _).alloc (by simp) _
    obtain ⟨vs, hvl, hov, hvT, hvB, hnext⟩ := hx.lit hz (fun b hb => by simp at hb) hbW (lit_own #[.int .i64 x, .int .i64 y] [x, y] (.cells #[.slice (some ⟨wr.heap.size, 0, none⟩) 2 2] 26) rfl (by simp))
    have hqW := own_below hq hbW
    have hbW2 : Below w.heap.size w ((wr.alloc (.cells #[.int .i64 x, .int .i64 y] 3)).alloc (.cells #[.slice (some ⟨wr.heap.size, 0, none⟩) 2 2] 26)) := (hb.alloc hz _).alloc (by simp; omega) _
    have hrW := hr.below hbW
    rw [← hvl] at hpl40
    have HN := Lib.hid hnext
    clear hvl hx hnext hr
    go_upto_region 13 with (at_builtin; refine wpList_appendB _ rfl (.tmp 49) (.tmp 53) _ rfl 0 26 iR _ 1 24 Tryz.underlying77 hiR hzR0 hzR1 hzR2 rfl (by omega) _ vs.length vs rfl hov _ 1 [.slice (some ⟨wr.heap.size, 0, none⟩) 2 2] rfl (rdS_newAt (wr.alloc (.cells #[.int .i64 x, .int .i64 y] 3)) (wr.heap.size + 1) (by simp) #[.slice (some ⟨wr.heap.size, 0, none⟩) 2 2] _ 1 1 rfl (by simp [maxLen])) (by simp [Value.oneCell']) (by simp [maxLen]; omega) (by omega) (by omega) ?_; intro v4 w4 own4 gr4 at4)
    have hch := Chg.of_grown gr4
    have hx4 := HN.out _ _ own4 gr4 at4
    rw [← HP.out] at hx4
    have hq4 := own_chg hqW hch (fun b hb hb' => hap.out b hb hb')
    have hb4 := Below.chg hbW2 hch (by simp; omega) (fun b hb => (hvB b hb).1)
    have hz4 := hb4.size
    have hlt4 := (RdS.of_own hq4)
    obtain ⟨gc, oc, e, _, hcc⟩ := (h0.below hb4).cell cCross_len (by omega) hlt
    injection e with e
    injection e with e1 e2
    subst e1 e2
    have k0 := hcc 0 _ rfl
    simp only [Nat.add_zero] at k0
    rw [HCC.out] at k0
    clear own4 gr4 at4 hch hov hvT hvB hcc hqW hq hap
    obtain ⟨A4, c4, rfl, _, _⟩ := hx4.rd.form
    go_wp2_with fail
    refine (specSwap_any _ o a _ hlt4 Hok.out Hal.out).mono ?_
    rintro e w5 ⟨v5, rfl, own5, hb5⟩
    have hx5 := hx4.below hb5
    have hap5 : Hid (Apart v5 (.slice A4 (pairsTo m cs (k + 1)).length c4)) := fun b hb hb' => by
     have h1 := (own_lt own5 b hb).1
     obtain ⟨S, ⟨vs, _, ho, _, rfl⟩, hf, _⟩ := hx4
     have h3 := (hf.2 b (List.mem_append_left _ hb')).2
     omega
    have hb5' : Below w.heap.size w w5 := bl_trans hb4 hb5
    obtain ⟨A5, c5, rfl, _, _⟩ := (RdS.of_own own5).form
    have HX5 := Lib.hid hx5
    clear hx4 hx5 hb5 hq4 hlt4
    go_wp2_with fail
    go_roundw
    case rel => exact ⟨k + 1, by omega, by go_num, HX5.out, by rw [Hsn.out, Hlen2.out]; exact own_mono own5 (Nat.zero_le _), hap5, hb5'⟩
    case measure => simp [intOf]; omega
  ·obtain rfl : k = cs.length := by omega
   go_wp2_with fail
   go_ret
   exact ⟨_, rfl, hx, hb⟩
theorem rep_succ (m k : Nat) : List.replicate (k + 1) (List.replicate m (0 : Int)) = List.replicate k (List.replicate m 0) ++ [List.replicate m 0] := List.replicate_succ'
set_option maxHeartbeats 8000000 in
set_option maxRecDepth 100000 in
theorem specTwistTable_any (m : Nat) (v : Value) (cs : List RCross) (w : World) (h : RdL cCross 2 w v cs) (hqc : crossesB m cs = true) :
  Calls Tryz.prog 97 #[.int .i64 m, v] w fun e w' => ∃ v', e = .returned v' ∧ RowsX [] w.heap.size w' v' (twL m cs) ∧ Below w.heap.size w w' := by
 have h0 := h
 obtain ⟨A, c, rfl, h1, h2⟩ := h.form
 obtain ⟨hn, hlen, hcs⟩ := crosses_len hqc
 have hm : 1 ≤ m ∧ m ≤ 7 := by omega
 obtain ⟨iR, hiR, hzR0, hzR1, hzR2⟩ := info_parts infoRow
 obtain ⟨i0, hi0, hz0, hz1, hz2⟩ := info_parts infoInt
 have hxa : RowsX [] w.heap.size (w.alloc (.cells #[] 26)) (.slice (some ⟨w.heap.size, 0, none⟩) 0 0) [] := RowsX.empty (Nat.le_refl _) (fun b hb => by simp at hb)
 have hba : Below w.heap.size w (w.alloc (.cells #[] 26)) := (Below.refl _ _).alloc (Nat.le_refl _) _
 have hC := specCrossesOk_any m _ cs _ (h0.below hba)
 rw [hqc] at hC
 have Hcs := Lib.hid hcs
 have HQ := Lib.hid hqc
 clear hcs hqc hn
 go_enter Tryz.func97, Tryz.ntmps97
 go_wp2_with fail
 refine hC.mono ?_
 rintro e w1 ⟨rfl, hb1⟩
 have hx1 := hxa.below hb1
 have hb01 : Below w.heap.size w w1 := bl_trans hba hb1
 clear hC hxa hba hb1
 go_wp2_with fail
 go_loopw [5, 6] (fun p i wr => ∃ k : Nat, k ≤ m ∧ i = .int .i64 k ∧ RowsX [] w.heap.size wr p (List.replicate k (List.replicate m 0)) ∧ Below w.heap.size w wr) (fun _ i _ => m - (intOf i).toNat)
 case atStart => exact ⟨0, Nat.zero_le _, rfl, hx1, hb01⟩
 case round =>
  obtain ⟨k, hk, rfl, hx, hb⟩ := hrel
  clear hx1 hb01
  have hz := hb.size
  have HR := Lib.hid (rep_succ m k)
  have hl7 : (List.replicate k (List.replicate m (0 : Int))).length ≤ 7 := by simp; omega
  obtain ⟨Ap, cp, rfl, _, _⟩ := hx.rd.form
  by_cases hlt : k < m
  ·generalize List.replicate k (List.replicate m (0 : Int)) = rk at *
   go_wp2_with (first
    | (at_make; refine wpList_make_full _ rfl _ _ _ rfl wr.heap.size 3 i0 _ 1 Tryz.underlying26 hi0 hz0 hz1 _ _ _ _ m rfl rfl rfl rfl (by rw [hz2]; omega) (by simp [maxLen]; omega) (Nat.le_refl _) ?_; intro w2 hown hgr; rw [row_made, Nat.mul_one] at hown; have hb2 : Below wr.heap.size wr w2 := (Below.refl _ _).grown hgr (Nat.le_refl _) (by simp); obtain ⟨vs, hvl, hov, hvT, hvB, hnext⟩ := hx.lit hz (fun b hb => by simp at hb) (hb2.alloc hb2.size (.cells #[.slice (some ⟨wr.heap.size, 0, none⟩) m m] 26)) (r := List.replicate m 0) (u := .slice (some ⟨wr.heap.size, 0, none⟩) m m) (by rw [List.length_replicate]; exact hown.alloc _); rw [← hvl] at hl7; have HVL := Lib.hid hvl; have HN := Lib.hid hnext; clear hvl hnext hgr)
    | (at_builtin; refine wpList_appendB _ rfl (.tmp 21) (.tmp 24) _ rfl 0 26 iR _ 1 24 Tryz.underlying77 hiR hzR0 hzR1 hzR2 rfl (by omega) _ vs.length vs rfl hov _ 1 [.slice (some ⟨wr.heap.size, 0, none⟩) m m] rfl (rdS_new w2 #[.slice (some ⟨wr.heap.size, 0, none⟩) m m] _ 1 1 rfl (by simp [maxLen])) (by simp [Value.oneCell']) (by simp [maxLen]; omega) (by omega) (by omega) ?_; intro v4 w4 own4 gr4 at4))
   have hch := Chg.of_grown gr4
   have hx4 := HN.out _ _ own4 gr4 at4
   have hz2' := hb2.size
   have hb4 := Below.chg ((bl_trans hb hb2).alloc (by omega) (.cells #[.slice (some ⟨wr.heap.size, 0, none⟩) m m] 26)) hch (by simp; omega) (fun b hb => (hvB b hb).1)
   have HX4 := Lib.hid hx4
   clear hx4 own4 gr4 at4 hch hov hvT hvB hown
   go_wp2_with fail
   go_roundw
   case rel => exact ⟨k + 1, by omega, by go_num, by rw [HR.out]; exact HX4.out, hb4⟩
   case measure => simp [intOf]; omega
  ·obtain rfl : k = m := by omega
   have hx' : RowsX [] w.heap.size wr (.slice Ap (List.replicate k (List.replicate k (0 : Int))).length cp) (twL k (cs.take 0)) := hx
   have HL := Lib.hid (show (List.replicate k (List.replicate k (0 : Int))).length = k by simp)
   rw [HL.out] at hx' ⊢
   clear hl7 HR hx
   obtain ⟨St, ht, hft, _⟩ := hx'
   have hr := h0.below hb
   go_wp2_with fail
   refine (specPairsOf_any k _ cs _ hr HQ.out).mono ?_
   rintro e w2 ⟨vp, rfl, ⟨Sp, hp, hfp, _⟩, hb2⟩
   have hz2' := hb2.size
   obtain ⟨Aq, cq, rfl, _, _⟩ := hp.rd.form
   have ht2 := ht.below hb2
   have hb02 := bl_trans hb hb2
   have hSp : ∀ b ∈ Sp, wr.heap.size ≤ b := fun b hb => (hfp.2 b hb).1
   have hSt : ∀ b ∈ St, w.heap.size ≤ b ∧ b < wr.heap.size := hft.2
   have HGO : Hid (∀ go oo, Aq = some ⟨go, oo, none⟩ → wr.heap.size ≤ go) := fun go oo e => by
    subst e
    obtain ⟨vs, _, _, _, e⟩ := hp
    exact hSp go (by rw [e]; simp [Value.ownBlock])
   have hSn := hft.1
   have hPn := hfp.1
   have HPA := Lib.hid (pairsTo_at k cs cs.length)
   have hpl := pairsTo_len k cs cs.length
   rw [hpl]
   rw [hpl] at hp
   have HPL := Lib.hid hpl
   clear ht hb2 hft hfp hr hpl
   obtain ⟨ps, hps⟩ : ∃ ps, pairsTo k cs cs.length = ps := ⟨_, rfl⟩
   rw [hps] at hp HPA HPL
   clear hps
   obtain ⟨Z, hZ⟩ : ∃ Z, wr.heap.size = Z := ⟨_, rfl⟩
   rw [hZ] at hSp hSt hz2' HGO
   clear hZ hz
   go_wp2_with fail
   go_loopw [8, 9] (fun i _ wx => ∃ q : Nat, q ≤ cs.length ∧ i = .int .i64 q ∧ OwRows 26 3 wx St (.slice Ap k cp) (twL k (cs.take q)) ∧ OwRows 26 3 wx Sp (.slice Aq cs.length cq) ps ∧ Z ≤ wx.heap.size ∧ Below w.heap.size w wx) (fun i _ _ => cs.length - (intOf i).toNat)
   case atStart => exact ⟨0, Nat.zero_le _, rfl, ht2, hp, hz2', hb02⟩
   case round =>
    obtain ⟨q, hq, rfl, ht, hp, hzz, hb⟩ := hrel
    clear ht2 hz2' hb02
    by_cases hlt : q < cs.length
    ·have hr := h0.below hb
     obtain ⟨gc, oc, e, _, hc⟩ := hr.cell cCross_len (by omega) hlt
     subst e
     have k1 := hc 1 _ rfl
     clear hc hr
     have hcb := Hcs.out _ (List.getElem_mem hlt)
     have hord : IsOrd k (orderF k (cs.take q)) := IsOrd.order (fun c hc => Hcs.out c (List.mem_of_mem_take hc))
     have htw := twL_snoc k hlt
     obtain ⟨a, ha⟩ := Int.eq_ofNat_of_zero_le hcb.1
     obtain ⟨x, y, hx, hy, hne, ex, ey, ex', ey'⟩ := pair_of hord (k := a) (by omega)
     have hpa := HPA.out q (by rw [HPL.out]; exact hlt)
     rw [getD_cross cs hlt] at hpa
     unfold pairAt at hpa
     rw [ha, show ((a : Nat) : Int).toNat = a from rfl] at htw hpa
     rw [ex', ey'] at htw
     rw [ex, ey] at hpa
     have HPS := Lib.hid hpa
     have HTQ := Lib.hid (twL_sq (n := k) (cs := cs.take q) (fun c hc => Hcs.out c (List.mem_of_mem_take hc)))
     have HBD : Hid (∀ i j, -1000 ≤ cellT (twL k (cs.take q)) i j ∧ cellT (twL k (cs.take q)) i j ≤ 1000) := fun i j => by have := twL_bd Hcs.out q (by omega) i j; omega
     have HT0 := Lib.hid htw
     clear htw hpa hord hcb ex ey ex' ey'
     obtain ⟨cc, hcc⟩ : ∃ cc, cs[q] = cc := ⟨_, rfl⟩
     rw [hcc] at k1 HPS HT0
     obtain ⟨ca, f⟩ := cc
     simp only at k1
     clear hcc ha
     generalize twL k (cs.take q) = TT at *
     cases f
     ·have hps : ps[q]'(by rw [HPL.out]; exact hlt) = [(y : Int), (x : Int)] := by rw [HPS.out, if_neg (by simp)]
      have HTW : Hid (twL k (cs.take (q + 1)) = addT (addT TT y x (-1)) x y (-1)) := HT0.out.trans (add2_comm HTQ.out hx hy hne _)
      obtain ⟨go, co, g, cg, e, c1, c2, c3, hgS⟩ := hp.pairAt hPn (by rw [HPL.out]; exact hlt) hps
      injection e with e1 e2 e3
      subst e1 e3
      clear e2
      obtain ⟨tb, ctb, tg, tc, e, d1, d2, f1, n1, n2, n3, H1⟩ := ht.pickT hSn HTQ.out hy hx
      injection e with e1 _ e3
      subst e1 e3
      have H1' := H1 (-1)
      have hb1 := HBD.out y x
      have hq2 := addT_sq HTQ.out hy x (-1)
      have hb2 : -1001 ≤ cellT (addT TT y x (-1)) x y ∧ cellT (addT TT y x (-1)) x y ≤ 1001 := by
       rw [addT_cell HTQ.out hy hx]
       split
       ·omega
       ·have := HBD.out x y; omega
      have HQ2 := Lib.hid hq2
      obtain ⟨T1, hT1⟩ : ∃ T1, addT TT y x (-1) = T1 := ⟨_, rfl⟩
      rw [hT1] at H1' HQ2 hb2 HTW
      obtain ⟨v1, hv1⟩ : ∃ v1, cellT TT y x + (-1) = v1 := ⟨_, rfl⟩
      have hw1 : IntKind.i64.wrap (cellT TT y x + (-1)) = v1 := by rw [← hv1]; exact IntWalk.i64_in _ (by omega)
      rw [hv1] at H1'
      clear hv1 hT1 H1 hq2 ht hb1
      generalize cellT TT y x = t1 at *
      have hPk : (y : Int) < (k : Int) := by omega
      have hQk : (x : Int) < (k : Int) := by omega
      have H1h := Lib.hid H1'
      have m1 : ¬ tb = tg := fun e => n1 e.symm
      have m2 : ¬ go = tg := fun e => by have := (hSt _ n2).2; have := HGO.out _ _ rfl; omega
      have m3 : ¬ g = tg := fun e => by have := (hSt _ n2).2; have := hSp _ hgS; omega
      have hps2 := Lib.hid hps
      clear H1' hps
      go_upto_region 15 with (fail)
      go_still_tail 35, (by kernel_rfl)
      change wpList _ _ _ _ _ (World.drew wr)
      go_upto_region 16 with (fail)
      have hch : Chg [tg] wr (wr.setCell ⟨tg, x, none⟩ (.int .i64 v1)).drew := (chg_set (Chg.refl _ _) (by simp) : Chg [tg] wr (wr.setCell ⟨tg, x, none⟩ (.int .i64 v1))).trans (Chg.of_below ((Below.refl _ _).drew) _)
      have htg := hSt _ n2
      have ht1 : OwRows 26 3 (wr.setCell ⟨tg, x, none⟩ (.int .i64 v1)).drew St (.slice (some ⟨tb, 0, none⟩) k cp) T1 := H1h.out
      have hp1 : OwRows 26 3 (wr.setCell ⟨tg, x, none⟩ (.int .i64 v1)).drew Sp (.slice (some ⟨go, 0, none⟩) cs.length cq) ps := hp.chg hch (fun b hb hb' => by have := hSp b hb; simp at hb'; omega)
      have hb1 : Below w.heap.size w (wr.setCell ⟨tg, x, none⟩ (.int .i64 v1)).drew := (hb.setCell htg.1 _).drew
      have hz1 : Z ≤ (wr.setCell ⟨tg, x, none⟩ (.int .i64 v1)).drew.heap.size := by show Z ≤ (wr.setCell ⟨tg, x, none⟩ (.int .i64 v1)).heap.size; rw [World.size_setCell]; exact hzz
      clear hch c1 c2 c3 d1 d2 f1 H1h hp hb hzz k1 m1 m2 m3 n1 n2 n3 hw1 hgS
      generalize (wr.setCell ⟨tg, x, none⟩ (.int .i64 v1)).drew = W1 at *
      obtain ⟨go', co', g', cg', e, c1, c2, c3, hgS⟩ := hp1.pairAt hPn (by rw [HPL.out]; exact hlt) hps2.out
      injection e with e1 e2 e3
      injection e1 with e1
      injection e1 with e1
      subst e1 e3
      clear e2
      obtain ⟨tb', ctb', tg', tc', e, d1, d2, f1, n1, n2, n3, H1⟩ := ht1.pickT hSn HQ2.out hx hy
      injection e with e1 e2 e3
      injection e1 with e1
      injection e1 with e1
      subst e1 e3
      have H1' := H1 (-1)
      rw [← HTW.out] at H1'
      obtain ⟨v2, hv2⟩ : ∃ v2, cellT T1 x y + (-1) = v2 := ⟨_, rfl⟩
      have hw1 : IntKind.i64.wrap (cellT T1 x y + (-1)) = v2 := by rw [← hv2]; exact IntWalk.i64_in _ (by omega)
      rw [hv2] at H1'
      clear hv2 H1 ht1 hb2
      generalize cellT T1 x y = t2 at *
      have H1h := Lib.hid H1'
      have htg' := hSt _ n2
      have m1 : ¬ tb = tg' := fun e => n1 e.symm
      have m2 : ¬ go = tg' := fun e => by have := HGO.out _ _ rfl; omega
      have m3 : ¬ g' = tg' := fun e => by have := hSp _ hgS; omega
      have hch : Chg [tg'] W1 (W1.setCell ⟨tg', y, none⟩ (.int .i64 v2)) := chg_set (Chg.refl _ _) (by simp)
      have hp2 := Lib.hid (hp1.chg hch (fun b hb hb' => by have := hSp b hb; simp at hb'; omega))
      have hb3 : Hid (Below w.heap.size w (W1.setCell ⟨tg', y, none⟩ (.int .i64 v2))) := hb1.setCell htg'.1 _
      have hz3 : Hid (Z ≤ (W1.setCell ⟨tg', y, none⟩ (.int .i64 v2)).heap.size) := by show Z ≤ _; rw [World.size_setCell]; exact hz1
      clear H1' hps2 hch hp1
      go_still_tail 35, (by kernel_rfl)
      change wpList _ _ _ _ _ (World.drew W1)
      go_wp2_with fail
      go_roundw
      case rel => exact ⟨q + 1, by omega, by go_num, H1h.out, hp2.out, hz3.out, hb3.out.drew⟩
      case measure => simp [intOf]; omega
     ·have hps : ps[q]'(by rw [HPL.out]; exact hlt) = [(x : Int), (y : Int)] := by rw [HPS.out, if_pos rfl]
      have HTW : Hid (twL k (cs.take (q + 1)) = addT (addT TT x y (1)) y x (1)) := HT0.out
      obtain ⟨go, co, g, cg, e, c1, c2, c3, hgS⟩ := hp.pairAt hPn (by rw [HPL.out]; exact hlt) hps
      injection e with e1 e2 e3
      subst e1 e3
      clear e2
      obtain ⟨tb, ctb, tg, tc, e, d1, d2, f1, n1, n2, n3, H1⟩ := ht.pickT hSn HTQ.out hx hy
      injection e with e1 _ e3
      subst e1 e3
      have H1' := H1 (1)
      have hb1 := HBD.out x y
      have hq2 := addT_sq HTQ.out hx y (1)
      have hb2 : -1001 ≤ cellT (addT TT x y (1)) y x ∧ cellT (addT TT x y (1)) y x ≤ 1001 := by
       rw [addT_cell HTQ.out hx hy]
       split
       ·omega
       ·have := HBD.out y x; omega
      have HQ2 := Lib.hid hq2
      obtain ⟨T1, hT1⟩ : ∃ T1, addT TT x y (1) = T1 := ⟨_, rfl⟩
      rw [hT1] at H1' HQ2 hb2 HTW
      obtain ⟨v1, hv1⟩ : ∃ v1, cellT TT x y + (1) = v1 := ⟨_, rfl⟩
      have hw1 : IntKind.i64.wrap (cellT TT x y + (1)) = v1 := by rw [← hv1]; exact IntWalk.i64_in _ (by omega)
      rw [hv1] at H1'
      clear hv1 hT1 H1 hq2 ht hb1
      generalize cellT TT x y = t1 at *
      have hPk : (x : Int) < (k : Int) := by omega
      have hQk : (y : Int) < (k : Int) := by omega
      have H1h := Lib.hid H1'
      have m1 : ¬ tb = tg := fun e => n1 e.symm
      have m2 : ¬ go = tg := fun e => by have := (hSt _ n2).2; have := HGO.out _ _ rfl; omega
      have m3 : ¬ g = tg := fun e => by have := (hSt _ n2).2; have := hSp _ hgS; omega
      have hps2 := Lib.hid hps
      clear H1' hps
      go_upto_region 15 with (fail)
      go_still_tail 35, (by kernel_rfl)
      change wpList _ _ _ _ _ (World.drew wr)
      go_upto_region 16 with (fail)
      have hch : Chg [tg] wr (wr.setCell ⟨tg, y, none⟩ (.int .i64 v1)).drew := (chg_set (Chg.refl _ _) (by simp) : Chg [tg] wr (wr.setCell ⟨tg, y, none⟩ (.int .i64 v1))).trans (Chg.of_below ((Below.refl _ _).drew) _)
      have htg := hSt _ n2
      have ht1 : OwRows 26 3 (wr.setCell ⟨tg, y, none⟩ (.int .i64 v1)).drew St (.slice (some ⟨tb, 0, none⟩) k cp) T1 := H1h.out
      have hp1 : OwRows 26 3 (wr.setCell ⟨tg, y, none⟩ (.int .i64 v1)).drew Sp (.slice (some ⟨go, 0, none⟩) cs.length cq) ps := hp.chg hch (fun b hb hb' => by have := hSp b hb; simp at hb'; omega)
      have hb1 : Below w.heap.size w (wr.setCell ⟨tg, y, none⟩ (.int .i64 v1)).drew := (hb.setCell htg.1 _).drew
      have hz1 : Z ≤ (wr.setCell ⟨tg, y, none⟩ (.int .i64 v1)).drew.heap.size := by show Z ≤ (wr.setCell ⟨tg, y, none⟩ (.int .i64 v1)).heap.size; rw [World.size_setCell]; exact hzz
      clear hch c1 c2 c3 d1 d2 f1 H1h hp hb hzz k1 m1 m2 m3 n1 n2 n3 hw1 hgS
      generalize (wr.setCell ⟨tg, y, none⟩ (.int .i64 v1)).drew = W1 at *
      obtain ⟨go', co', g', cg', e, c1, c2, c3, hgS⟩ := hp1.pairAt hPn (by rw [HPL.out]; exact hlt) hps2.out
      injection e with e1 e2 e3
      injection e1 with e1
      injection e1 with e1
      subst e1 e3
      clear e2
      obtain ⟨tb', ctb', tg', tc', e, d1, d2, f1, n1, n2, n3, H1⟩ := ht1.pickT hSn HQ2.out hy hx
      injection e with e1 e2 e3
      injection e1 with e1
      injection e1 with e1
      subst e1 e3
      have H1' := H1 (1)
      rw [← HTW.out] at H1'
      obtain ⟨v2, hv2⟩ : ∃ v2, cellT T1 y x + (1) = v2 := ⟨_, rfl⟩
      have hw1 : IntKind.i64.wrap (cellT T1 y x + (1)) = v2 := by rw [← hv2]; exact IntWalk.i64_in _ (by omega)
      rw [hv2] at H1'
      clear hv2 H1 ht1 hb2
      generalize cellT T1 y x = t2 at *
      have H1h := Lib.hid H1'
      have htg' := hSt _ n2
      have m1 : ¬ tb = tg' := fun e => n1 e.symm
      have m2 : ¬ go = tg' := fun e => by have := HGO.out _ _ rfl; omega
      have m3 : ¬ g' = tg' := fun e => by have := hSp _ hgS; omega
      have hch : Chg [tg'] W1 (W1.setCell ⟨tg', x, none⟩ (.int .i64 v2)) := chg_set (Chg.refl _ _) (by simp)
      have hp2 := Lib.hid (hp1.chg hch (fun b hb hb' => by have := hSp b hb; simp at hb'; omega))
      have hb3 : Hid (Below w.heap.size w (W1.setCell ⟨tg', x, none⟩ (.int .i64 v2))) := hb1.setCell htg'.1 _
      have hz3 : Hid (Z ≤ (W1.setCell ⟨tg', x, none⟩ (.int .i64 v2)).heap.size) := by show Z ≤ _; rw [World.size_setCell]; exact hz1
      clear H1' hps2 hch hp1
      go_still_tail 35, (by kernel_rfl)
      change wpList _ _ _ _ _ (World.drew W1)
      go_wp2_with fail
      go_roundw
      case rel => exact ⟨q + 1, by omega, by go_num, H1h.out, hp2.out, hz3.out, hb3.out.drew⟩
      case measure => simp [intOf]; omega
    ·obtain rfl : q = cs.length := by omega
     rw [List.take_length] at ht
     go_wp2_with fail
     go_ret
     exact ⟨_, rfl, ⟨St, ht, ⟨hSn, fun b hb => by have := hSt b hb; omega⟩, fun b _ => by simp⟩, hb⟩
set_option maxHeartbeats 4000000 in
set_option maxRecDepth 100000 in
theorem specTwistOf_any (m i j : Nat) (v : Value) (cs : List RCross) (w : World) (h : RdL cCross 2 w v cs) (hqc : crossesB m cs = true) (hi : i < m) (hj : j < m) :
  Calls Tryz.prog 174 #[.int .i64 m, v, .int .i64 i, .int .i64 j] w fun e w' => e = .returned (.int .i64 (cellT (twL m cs) i j)) ∧ Below w.heap.size w w' := by
 have h0 := h
 obtain ⟨A, c, rfl, h1, h2⟩ := h.form
 obtain ⟨hn, hlen, hcs⟩ := crosses_len hqc
 have HSQ := Lib.hid (twL_sq hcs)
 have hw := IntWalk.i64_in ((m : Int) - 1) (by omega)
 clear hcs
 go_enter Tryz.func174, Tryz.ntmps174
 go_wp2_with fail
 refine (specTwistTable_any m _ cs _ h0 hqc).mono ?_
 rintro e w2 ⟨vt, rfl, hx, hb2⟩
 obtain ⟨At, ct, rfl, _, _⟩ := hx.rd.form
 have hrd := hx.rd
 rw [HSQ.out.len] at hrd
 (try rw [HSQ.out.len])
 obtain ⟨gt, ot, cot, gr, offr, cr, e, d1, d2⟩ := hrd.cellT HSQ.out hi hj
 injection e with e1 e2 e3
 subst e1 e3
 obtain ⟨t, ht⟩ : ∃ t, cellT (twL m cs) i j = t := ⟨_, rfl⟩
 rw [ht] at d2
 have HT := Lib.hid ht
 clear hx hrd HSQ ht
 have hi0 : (i : Int) < (m : Int) := by omega
 have hj0 : (j : Int) < (m : Int) := by omega
 go_wp2_with (go_at_call 85; refine (l01In_t (inB_iff.2 ⟨by omega, by omega⟩)).mono ?_; rintro e w' ⟨rfl, rfl⟩)
 go_ret
 exact ⟨by rw [HT.out]; rfl, hb2⟩
set_option maxHeartbeats 8000000 in
set_option maxRecDepth 100000 in
theorem specWound_any (m : Nat) (v : Value) (cs : List RCross) (w : World) (h : RdL cCross 2 w v cs) (hqc : crossesB m cs = true) :
  Calls Tryz.prog 46 #[.int .i64 m, v] w fun e w' => ∃ v', e = .returned v' ∧ RowsX [] w.heap.size w' v' (woundL m cs) ∧ Below w.heap.size w w' := by
 have h0 := h
 obtain ⟨A, c, rfl, h1, h2⟩ := h.form
 obtain ⟨hn, hlen, hcs⟩ := crosses_len hqc
 have hm : 1 ≤ m ∧ m ≤ 7 := by omega
 obtain ⟨iR, hiR, hzR0, hzR1, hzR2⟩ := info_parts infoRow
 have HQ := Lib.hid hqc
 have HSQ := Lib.hid (twL_sq hcs)
 clear hcs hqc hn
 have hxa : RowsX [] w.heap.size (w.alloc (.cells #[] 26)) (.slice (some ⟨w.heap.size, 0, none⟩) 0 0) [] := RowsX.empty (Nat.le_refl _) (fun b hb => by simp at hb)
 have hba : Below w.heap.size w (w.alloc (.cells #[] 26)) := (Below.refl _ _).alloc (Nat.le_refl _) _
 have hrd1 := h0.below hba
 go_enter Tryz.func46, Tryz.ntmps46
 go_wp2_with fail
 refine (specTwistTable_any m _ cs _ hrd1 HQ.out).mono ?_
 rintro e w2 ⟨vt, rfl, ⟨St, htw, hft, _⟩, hb2⟩
 have hxw : RowsX St w.heap.size w2 (.slice (some ⟨w.heap.size, 0, none⟩) 0 0) [] := (hxa.apart (fun b hb => (hft.2 b hb).1)).below hb2
 have hbw : Below w.heap.size w w2 := bl_trans hba hb2
 have hSt : ∀ b ∈ St, b < w2.heap.size := fun b hb => (hft.2 b hb).2
 have hsn := hft.1
 clear hrd1 hft hb2 hba hxa
 obtain ⟨At, ct, rfl, _, _⟩ := htw.rd.form
 rw [HSQ.out.len] at htw
 (try rw [HSQ.out.len])
 go_upto_region 3 with (fail)
 have HWL : Hid (woundL m cs = woundTo (twL m cs) m m) := rfl
 generalize twL m cs = tw at *
 obtain ⟨W0, hW0⟩ : ∃ W0, w2 = W0 := ⟨_, rfl⟩
 rw [hW0] at hxw htw hbw hSt ⊢
 clear hW0
 have hunf : woundL m cs = woundTo tw m m := HWL.out
 have HF := Lib.hid hunf
 clear hunf HWL
 go_wp2_with fail
 go_loopw [5, 7, 8] (fun p i _ wr => ∃ q : Nat, q ≤ m ∧ i = .int .i64 q ∧ RowsX St w.heap.size wr p (woundTo tw m q) ∧ OwRows 26 3 wr St (.slice At m ct) tw ∧ W0.heap.size ≤ wr.heap.size ∧ Below w.heap.size w wr) (fun _ i _ _ => m - (intOf i).toNat)
 case atStart => exact ⟨0, Nat.zero_le _, rfl, hxw, htw, Nat.le_refl _, hbw⟩
 case round =>
  obtain ⟨q, hq, rfl, hx, ht, hzW, hb⟩ := hrel
  clear hxw htw hbw
  by_cases hlt : q < m
  ·obtain ⟨Ap, cp, rfl, _, _⟩ := hx.rd.form
   have hx' : RowsX St w.heap.size wr (.slice Ap (woundTo tw m q).length cp) (woundTo tw m q ++ woundR tw q (q + 1)) := by rw [woundR_start, List.append_nil]; exact hx
   clear hx
   go_wp2_with fail
   go_loopw [5, 8] (fun p i wr => ∃ q2 : Nat, (q < q2 ∧ q2 ≤ m) ∧ i = .int .i64 q2 ∧ RowsX St w.heap.size wr p (woundTo tw m q ++ woundR tw q q2) ∧ OwRows 26 3 wr St (.slice At m ct) tw ∧ W0.heap.size ≤ wr.heap.size ∧ Below w.heap.size w wr) (fun _ i _ => m - (intOf i).toNat)
   case atStart => exact ⟨q + 1, ⟨by omega, by omega⟩, by go_num, hx', ht, hzW, hb⟩
   case round =>
    obtain ⟨q2, ⟨hq2, hq2'⟩, rfl, hx, ht, hzW, hb⟩ := hrel
    clear hx'
    have hz := hb.size
    have hl60 := woundTo_49 (ll := tw) hm.2 (show q ≤ m by omega) hq2'
    by_cases hlt2 : q2 < m
    ·obtain ⟨go, oo, co, g, off, cu, e, c1, c2⟩ := ht.rd.cellT HSQ.out hlt hlt2
     injection e with e1 _ e3
     subst e1 e3
     have Ht := Lib.hid (fun hc => woundR_t (ll := tw) (i := q) (k := q2) hq2 hc)
     have Hf := Lib.hid (fun hc => woundR_f (ll := tw) (i := q) (k := q2) hc)
     obtain ⟨Ap, cp, rfl, _, _⟩ := hx.rd.form
     generalize cellT tw q q2 = t at *
     by_cases h0 : t = 0
     ·have hr := Hf.out h0
      have HR := Lib.hid hr
      have h0' : (t != 0) = false := by rw [bne_eq_false_iff_eq]; exact h0
      clear hr h0 Ht Hf
      go_wp2_with fail
      go_roundw
      case rel => exact ⟨q2 + 1, ⟨by omega, by omega⟩, by go_num, by rw [HR.out]; exact hx, ht, hzW, hb⟩
      case measure => simp [intOf]; omega
     ·have hr := Ht.out h0
      have HR := Lib.hid hr
      have h0' : (t != 0) = true := by rw [bne_iff_ne]; exact h0
      clear hr h0 Ht Hf
      have hbW : Below wr.heap.size wr ((wr.alloc (.cells #[.int .i64 q, .int .i64 q2] 3)).alloc (.cells #[.slice (some ⟨wr.heap.size, 0, none⟩) 2 2] 26)) := ((Below.refl _ _).alloc (Nat.le_refl _) _).alloc (by simp) _
      obtain ⟨vs, hvl, hov, hvT, hvB, hnext⟩ := hx.lit hz (fun b hb => by have := hSt b hb; omega) hbW (lit_own #[.int .i64 q, .int .i64 q2] [(q : Int), (q2 : Int)] (.cells #[.slice (some ⟨wr.heap.size, 0, none⟩) 2 2] 26) rfl (by simp))
      have htW := ht.below hbW
      have hbW2 : Below w.heap.size w ((wr.alloc (.cells #[.int .i64 q, .int .i64 q2] 3)).alloc (.cells #[.slice (some ⟨wr.heap.size, 0, none⟩) 2 2] 26)) := (hb.alloc hz _).alloc (by simp; omega) _
      rw [← hvl] at hl60
      have Hvl := Lib.hid hvl
      clear hvl hx
      go_wp2_with (at_builtin; refine wpList_appendB _ rfl (.tmp 35) (.tmp 39) _ rfl 0 26 iR _ 1 24 Tryz.underlying77 hiR hzR0 hzR1 hzR2 rfl (by omega) _ vs.length vs rfl hov _ 1 [.slice (some ⟨wr.heap.size, 0, none⟩) 2 2] rfl (rdS_newAt (wr.alloc (.cells #[.int .i64 q, .int .i64 q2] 3)) (wr.heap.size + 1) (by simp) #[.slice (some ⟨wr.heap.size, 0, none⟩) 2 2] _ 1 1 rfl (by simp [maxLen])) (by simp [Value.oneCell']) (by simp [maxLen]; omega) (by omega) (by omega) ?_; intro v4 w4 own4 gr4 at4)
      have hch := Chg.of_grown gr4
      have hx4 := Lib.hid (hnext _ _ own4 gr4 at4)
      have ht4 := Lib.hid (htW.kept hch hvT)
      have hb4 := Lib.hid (Below.chg hbW2 hch (by simp; omega) (fun b hb => (hvB b hb).1))
      have hz4 : W0.heap.size ≤ w4.heap.size := by have := hch.size; simp at this; omega
      obtain ⟨A4, c4, rfl, _, _⟩ := hx4.out.rd.form
      clear own4 gr4 at4 hch hnext hov hvT hvB
      go_wp2_with fail
      go_roundw
      case rel => exact ⟨q2 + 1, ⟨by omega, by omega⟩, by go_num, by rw [HR.out, ← List.append_assoc]; exact hx4.out, ht4.out, hz4, hb4.out⟩
      case measure => simp [intOf]; omega
    ·obtain rfl : q2 = m := by omega
     obtain ⟨Ap, cp, rfl, _, _⟩ := hx.rd.form
     go_wp2_with fail
     go_roundw
     case rel => exact ⟨q + 1, by omega, by go_num, hx, ht, hzW, hb⟩
     case measure => simp [intOf]; omega
  ·obtain rfl : q = m := by omega
   obtain ⟨Ap, cp, rfl, _, _⟩ := hx.rd.form
   go_wp2_with fail
   go_ret
   refine ⟨_, rfl, ?_, hb⟩
   rw [HF.out]
   obtain ⟨S, hS1, hS2, _⟩ := hx
   exact ⟨S, hS1, hS2, fun b _ => by simp⟩
set_option maxHeartbeats 8000000 in
set_option maxRecDepth 100000 in
theorem specTurn_any (m i k : Nat) (f : Bool) (w : World) (hik : i < k) (hk : k < m) (hm : m ≤ 7) :
  Calls Tryz.prog 175 #[.int .i64 m, .int .i64 i, .int .i64 k, .bool f] w fun e w' => ∃ v', e = .returned (.tuple #[v', .bool true]) ∧ w'.ownsRow w.heap.size 85 2 v' (turnL i k f).length ((turnL i k f).flatMap cCross) ∧ Below w.heap.size w w' := by
 obtain ⟨iX, hiX, hzX0, hzX1, hzX2⟩ := info_parts infoCross
 have hownA := World.ownsRow_made (size := 2) (e := 85) w #[] 0 (Nat.le_refl _) (by simp [maxLen]) rfl
 have hbA : Below w.heap.size w (w.alloc (.cells #[] 85)) := (Below.refl _ _).alloc (Nat.le_refl _) _
 have i1 : ¬ (i : Int) < 0 := by omega
 have i2 : ¬ (i : Int) ≥ (k : Int) := by omega
 have i3 : ¬ (k : Int) ≥ (m : Int) := by omega
 have i4 : IntKind.i64.wrap ((k : Int) - 1) = (k : Int) - 1 := IntWalk.i64_in _ (by omega)
 have i5 : IntKind.i64.wrap ((m : Int) - 1) = (m : Int) - 1 := IntWalk.i64_in _ (by omega)
 obtain ⟨d, hd⟩ : ∃ d, k = i + d + 1 := ⟨k - 1 - i, by omega⟩
 have hd1 : k - 1 - i = d := by omega
 have HT : Hid (turnL i k f = (downL i d ++ [((i : Int), f), ((i : Int), f)]) ++ upL i d) := by unfold turnL; rw [hd1]; rfl
 have hkd : (k : Int) - 1 = (i : Int) + (d : Int) := by omega
 have HK := Lib.hid hd
 clear hd
 go_enter Tryz.func175, Tryz.ntmps175
 go_wp2_with (go_at_call 85; refine (l01In_t (inB_iff.2 ⟨by omega, by omega⟩)).mono ?_; rintro e w' ⟨rfl, rfl⟩)
 (try rw [hkd])
 (try generalize decide ((i : Int) < 0) = b1)
 (try generalize decide ((k : Int) ≤ (i : Int)) = b2)
 (try generalize decide (k ≤ i) = b4)
 (try generalize decide (m ≤ k) = b5)
 (try generalize decide ((m : Int) ≤ (k : Int)) = b3)
 clear i1 i2 i3 i4 i5 hd1 hkd
 have hd6 : d ≤ 6 := by have := HK.out; omega
 go_loopw [10, 11] (fun p a wr => ∃ (e : Nat) (done : List RCross), e ≤ d ∧ a = .int .i64 ((i : Int) + (e : Int)) ∧ Hid (done ++ downL i e = downL i d) ∧ wr.ownsRow w.heap.size 85 2 p done.length (done.flatMap cCross) ∧ done.length + e = d ∧ Below w.heap.size w wr) (fun _ a _ => (intOf a).toNat - i)
 case atStart => exact ⟨d, [], Nat.le_refl _, rfl, rfl, hownA, by simp, hbA⟩
 case round =>
  obtain ⟨e, done, he, rfl, hdn, hown, hle, hb⟩ := hrel
  clear hownA hbA
  have hz := hb.size
  obtain ⟨Ap, cp, rfl, _, _⟩ := (RdS.of_own hown).form
  by_cases h0 : e = 0
  ·subst h0
   have hdn' : done = downL i d := by have := hdn.out; rwa [downL, List.append_nil] at this
   have HD := Lib.hid hdn'
   have hdl : done.length ≤ 7 := by omega
   clear hdn hdn' hle
   rw [show (i : Int) + ((0 : Nat) : Int) = (i : Int) from Int.add_zero _]
   go_wp2_with (at_builtin; refine wpList_appendB _ rfl (.tmp 44) (.tmp 51) _ rfl w.heap.size 85 iX _ 2 16 Tryz.underlying32 hiX hzX0 hzX1 hzX2 rfl (by omega) _ done.length (done.flatMap cCross) rfl (hown.alloc _) _ 2 [.int .i64 i, .bool f, .int .i64 i, .bool f] rfl (rdS_new wr #[.int .i64 i, .bool f, .int .i64 i, .bool f] _ 2 2 rfl (by simp [maxLen])) (by simp [Value.oneCell']) (by simp [maxLen]; omega) (by omega) (by simp; omega) ?_; intro v4 w4 own4 gr4 at4)
   have hb4 := below_own (hown.alloc _) gr4 (by simp; omega)
   have hb5 : Below w.heap.size w w4 := (hb.alloc hz _).trans hb4
   have own5 : w4.ownsRow w.heap.size 85 2 v4 (done ++ [((i : Int), f), ((i : Int), f)]).length ((done ++ [((i : Int), f), ((i : Int), f)]).flatMap cCross) := by rw [List.length_append, List.flatMap_append]; exact own4
   have HL : Hid ((done ++ [((i : Int), f), ((i : Int), f)]).length = done.length + 2) := by show _ = _; rw [List.length_append]; rfl
   obtain ⟨A4, c4, rfl, _, _⟩ := (RdS.of_own own5).form
   have HT2 : Hid (turnL i k f = (done ++ [((i : Int), f), ((i : Int), f)]) ++ upL i d) := by rw [HD.out]; exact HT.out
   generalize done ++ [((i : Int), f), ((i : Int), f)] = dn at *
   have hdn9 : dn.length ≤ 9 := by rw [HL.out]; omega
   clear own4 gr4 at4 hb4 hown HD HL HT
   go_wp2_with fail
   go_loopw [10, 12] (fun p a wr => ∃ e : Nat, e ≤ d ∧ a = .int .i64 ((i : Int) + 1 + (e : Int)) ∧ wr.ownsRow w.heap.size 85 2 p (dn ++ upL i e).length ((dn ++ upL i e).flatMap cCross) ∧ Below w.heap.size w wr) (fun _ a _ => k - (intOf a).toNat)
   case atStart => exact ⟨0, Nat.zero_le _, int_eq (by simp), by rw [show dn ++ upL i 0 = dn from List.append_nil dn]; exact own5, hb5⟩
   case round =>
    obtain ⟨e, he, rfl, hown, hb⟩ := hrel
    clear own5 hb5
    have hz := hb.size
    obtain ⟨Ap, cp, rfl, _, _⟩ := (RdS.of_own hown).form
    have hlu : (dn ++ upL i e).length = dn.length + e := by rw [List.length_append, upL_len]
    have hl16 : (dn ++ upL i e).length ≤ 16 := by omega
    have HS : Hid (dn ++ upL i (e + 1) = (dn ++ upL i e) ++ [(((i + 1 + e : Nat) : Int), true)]) := by show _ = _; rw [upL, ← List.append_assoc, show i + e + 1 = i + 1 + e by omega]
    by_cases hlt : e < d
    ·have hlt' : (i : Int) + 1 + (e : Int) < (k : Int) := by have := HK.out; omega
     clear hlu
     obtain ⟨a, ha⟩ : ∃ a, i + 1 + e = a := ⟨_, rfl⟩
     have ha' : (i : Int) + 1 + (e : Int) = (a : Int) := by omega
     rw [ha] at HS
     rw [ha'] at hlt' ⊢
     clear ha'
     have HA := Lib.hid ha
     clear ha
     generalize dn ++ upL i e = du at *
     go_wp2_with (at_builtin; refine wpList_appendB _ rfl (.tmp 60) (.tmp 63) _ rfl w.heap.size 85 iX _ 2 16 Tryz.underlying32 hiX hzX0 hzX1 hzX2 rfl (by omega) _ du.length (du.flatMap cCross) rfl (hown.alloc _) _ 1 [.int .i64 a, .bool true] rfl (rdS_new wr #[.int .i64 a, .bool true] _ 2 1 rfl (by simp [maxLen])) (by simp [Value.oneCell']) (by simp [maxLen]; omega) (by omega) (by simp; omega) ?_; intro v4 w4 own4 gr4 at4)
     have hb4 := below_own (hown.alloc _) gr4 (by simp; omega)
     clear gr4 at4
     go_wp2_with fail
     go_roundw
     case rel => exact ⟨e + 1, by omega, int_eq (by have := HA.out; omega), by rw [HS.out, List.length_append, List.flatMap_append]; exact own4, (hb.alloc hz _).trans hb4⟩
     case measure => have := HA.out; simp [intOf]; omega
    ·obtain rfl : e = d := by omega
     have hlt' : ¬ (i : Int) + 1 + (e : Int) < (k : Int) := by have := HK.out; omega
     clear hlu HS
     generalize dn ++ upL i e = du at *
     go_wp2_with fail
     go_ret2
     rw [HT2.out]
     exact ⟨_, rfl, hown, hb⟩
  ·obtain ⟨e, rfl⟩ : ∃ e', e = e' + 1 := ⟨e - 1, by omega⟩
   have hgt : ((i + (e + 1) : Nat) : Int) > (i : Int) := by omega
   have HS : Hid ((done ++ [(((i + (e + 1) : Nat) : Int), false)]) ++ downL i e = downL i d) := by have := hdn.out; rw [downL] at this; rw [List.append_assoc]; exact this
   have hdl : done.length ≤ 7 := by omega
   have HLE := Lib.hid hle
   clear hdn h0 hle
   obtain ⟨a, ha⟩ : ∃ a, i + (e + 1) = a := ⟨_, rfl⟩
   have ha' : (i : Int) + ((e + 1 : Nat) : Int) = (a : Int) := by omega
   rw [ha] at hgt HS
   rw [ha']
   clear ha'
   have HA := Lib.hid ha
   have hw1 : IntKind.i64.wrap ((a : Int) - 1) = (a : Int) - 1 := IntWalk.i64_in _ (by omega)
   clear ha
   go_wp2_with (at_builtin; refine wpList_appendB _ rfl (.tmp 39) (.tmp 42) _ rfl w.heap.size 85 iX _ 2 16 Tryz.underlying32 hiX hzX0 hzX1 hzX2 rfl (by omega) _ done.length (done.flatMap cCross) rfl (hown.alloc _) _ 1 [.int .i64 a, .bool false] rfl (rdS_new wr #[.int .i64 a, .bool false] _ 2 1 rfl (by simp [maxLen])) (by simp [Value.oneCell']) (by simp [maxLen]; omega) (by omega) (by simp; omega) ?_; intro v4 w4 own4 gr4 at4)
   have hb4 := below_own (hown.alloc _) gr4 (by simp; omega)
   clear gr4 at4
   go_wp2_with fail
   go_roundw
   case rel => exact ⟨e, done ++ [((a : Int), false)], by omega, int_eq (by have := HA.out; omega), HS.out, by rw [List.length_append, List.flatMap_append]; exact own4, by rw [List.length_append]; have := HLE.out; simp; omega, (hb.alloc hz _).trans hb4⟩
   case measure => have := HA.out; simp [intOf]; omega
open Go.RowKit
theorem act30wi {a : Act} (h : a.tmps.size = 30) (hd : a.defers = []) : ∃ x0 x1 x2 x3 x4 x5 x6 x7 x8 x9 x10 x11 x12 x13 x14 x15 x16 x17 x18 x19 x20 x21 x22 x23 x24 x25 x26 x27 x28 x29 : Value, a = ⟨#[x0, x1, x2, x3, x4, x5, x6, x7, x8, x9, x10, x11, x12, x13, x14, x15, x16, x17, x18, x19, x20, x21, x22, x23, x24, x25, x26, x27, x28, x29], []⟩ := by
 obtain ⟨⟨l⟩, d⟩ := a
 subst hd
 match l, h with
 | x0 :: x1 :: x2 :: x3 :: x4 :: x5 :: x6 :: x7 :: x8 :: x9 :: x10 :: x11 :: x12 :: x13 :: x14 :: x15 :: x16 :: x17 :: x18 :: x19 :: x20 :: x21 :: x22 :: x23 :: x24 :: x25 :: x26 :: x27 :: x28 :: x29 :: [], _ => exact ⟨x0, x1, x2, x3, x4, x5, x6, x7, x8, x9, x10, x11, x12, x13, x14, x15, x16, x17, x18, x19, x20, x21, x22, x23, x24, x25, x26, x27, x28, x29, rfl⟩
def pwi (gc pn m n2 B N : Nat) (A2 : Option Addr) (xs : List Value) (i : Nat) (v : Value) (_ : Nat → Nat) (w : World) : Prop :=
 match i with
 | 0 => v = .pointer (some ⟨gc, 2, none⟩)
 | 1 => v = .slice A2 pn n2
 | 2 => v = .pointer (some ⟨gc, 0, none⟩)
 | 3 => v = .int .i64 m
 | 4 => ∃ A c, v = .slice A N c ∧ w.ownsRow B 3 1 (.slice A N c) N xs
 | _ => True
set_option maxHeartbeats 8000000 in
set_option maxRecDepth 100000 in
theorem implWhyNot_any (n : Int) (v1 v2 : Value) (cs : List RCross) (pl : List RPl) (w : World) (h : RdCompany w v1 v2 cs pl) :
  Calls Tryz.prog 54 #[.agg #[.int .i64 n, v1, v2]] w fun e w' => e = .returned (.int .i64 (whyF n cs pl)) ∧ Below w.heap.size w w' := by
 have h0 := h
 obtain ⟨⟨A1, n1, rfl⟩, ⟨A2, n2, rfl⟩⟩ := h.forms
 have hbW : Below w.heap.size w (w.alloc (.cells #[.int .i64 n, .slice A1 cs.length n1, .slice A2 pl.length n2] 35)) := by (repeat' (with_reducible first | exact Below.refl _ _ | assumption | refine qS ?_ _ | refine qA ?_ _ | refine qD ?_ | refine qN ?_ _))
 have Lc0 : Loc (w.alloc (.cells #[.int .i64 n, .slice A1 cs.length n1, .slice A2 pl.length n2] 35)) w.heap.size [.int .i64 n, .slice A1 cs.length n1, .slice A2 pl.length n2] := Loc.new w #[.int .i64 n, .slice A1 cs.length n1, .slice A2 pl.length n2] 35
 go_enter Tryz.func54, Tryz.ntmps54
 go_upto_region 1 with (fail)
 obtain ⟨gc, hgc⟩ : ∃ g, w.heap.size = g := ⟨_, rfl⟩
 rw [hgc] at Lc0
 generalize w.alloc (.cells #[.int .i64 n, .slice A1 cs.length n1, .slice A2 pl.length n2] 35) = W0 at *
 (try rw [hgc])
 have hgw : gc < W0.heap.size := World.block_lt_of_cell? _ _ (Lc0 0 _ rfl).1
 have c0 := (Lc0 0 _ rfl).1
 have c1 := (Lc0 1 _ rfl).1
 have c2 := (Lc0 2 _ rfl).1
 go_wp2_with fail
 refine twoB (implCompanyOk_any n _ _ cs pl _ (h0.below hbW)) (fun w1 hq hb1 => ?_) (fun w1 hq hb1 => ?_)
 ·have Hq := hq
  have hcr := (company_n hq.out).1
  obtain ⟨hn, hlen, hcs⟩ := crosses_len hcr
  obtain ⟨m, rfl⟩ := Int.eq_ofNat_of_zero_le (show 0 ≤ n by omega)
  have hm7 : m ≤ 7 := by omega
  have Hcr := Lib.hid hcr
  have hm1 : 1 ≤ m := by omega
  have Lc1 := Lc0.below hb1
  have hb01 := bl_trans hbW hb1
  have hr1 := (h0.below hb01).1
  have HO := Lib.hid (IsOrd.order hcs)
  clear c0 c1 c2 hb1 hbW Lc0 hcr hcs
  have c0 := (Lc1 0 _ rfl).1
  have c1 := (Lc1 1 _ rfl).1
  have c2 := (Lc1 2 _ rfl).1
  have hCH : Calls Tryz.prog 102 #[.int .i64 m, .slice A1 cs.length n1] w1 fun e w' => e = .returned (.bool (decide (orderF m cs = upN m))) ∧ Below w1.heap.size w1 w' := implIsHome_any m _ cs w1 hr1 Hcr.out
  go_wp2_with fail
  refine twoB hCH (fun wz ho hbz => ?_) (fun wz ho hbz => ?_)
  all_goals
   have Lz := Lc1.below hbz
   have hb0z := bl_trans hb01 hbz
   clear hCH c0 c1 c2 Lc1 hb01 hr1 hbz
   first | have HOM : Hid (orderF (m : Int).toNat cs = upN (m : Int).toNat) := (show orderF m cs = upN m from of_decide_eq_true ho.out) | have HNO : Hid (¬ orderF (m : Int).toNat cs = upN (m : Int).toNat) := (show ¬ orderF m cs = upN m from of_decide_eq_false ho.out)
   clear ho
  ·have Ho : Hid (orderF (m : Int).toNat cs = upN (m : Int).toNat) := HOM
   have HU : Hid (∀ W v, RdL cCross 2 W v cs → Calls Tryz.prog 103 #[.int .i64 m, v] W fun e w' => ∃ v', e = .returned v' ∧ RowsX [] W.heap.size w' v' (woundL m cs) ∧ Below W.heap.size W w') := fun W v hr => implWound_any m v cs W hr Hcr.out
   have hCU := HU.out wz _ ((h0.below hb0z).1)
   clear HU HOM
   have c0 := (Lz 0 _ rfl).1
   have c1 := (Lz 1 _ rfl).1
   go_wp2_with fail
   refine hCU.mono ?_
   rintro e w3 ⟨vw, rfl, hrx, hb3⟩
   obtain ⟨Aw, cw, rfl, _, _⟩ := hrx.rd.form
   obtain ⟨wl, hwl⟩ : ∃ wl, (woundL m cs).length = wl := ⟨_, rfl⟩
   rw [hwl]
   have HL0 := Lib.hid hwl
   have Lc3 := Lz.below hb3
   have hb := bl_trans hb0z hb3
   have hzW := hb.size
   clear hCU hrx c0 c1 Lz hb3 hb0z hwl
   by_cases hw0 : wl = 0
   ·subst hw0
    have HL := HL0
    have Lc := Lc3
    obtain ⟨W, hW⟩ : ∃ W, w3 = W := ⟨_, rfl⟩
    subst hW
    go_upto_region 7 with (fail)
    obtain ⟨W, hW⟩ : ∃ W, w3 = W := ⟨_, rfl⟩
    rw [hW] at hb hzW Lc ⊢
    clear Lc3 HL0 hW
    go_upto_region 7 with (fail)
    refine region_made (n := 30) 5 (by kernel_rfl) rfl (by kernel_rfl) (fun w' => Below W.heap.size W w') (fun _ => 0) (pwi gc pl.length m n2 W.heap.size (upN m).length A2 ((upN m).flatMap cInt)) (Below.refl _ _).drew ?_ ?_ ?_
    ·intro i v gh gh' w1 w2 hp hJ hb' hg
     match i, hp with
     | 0, hp => exact hp
     | 1, hp => exact hp
     | 2, hp => exact hp
     | 3, hp => exact hp
     | 4, ⟨A', c', hv, ho⟩ => exact ⟨A', c', hv, own_below ho hb'⟩
     | _ + 5, _ => trivial
    ·refine ⟨?_, ?_, ?_, ?_, ?_, trivial⟩
     ·intro a gh w5 hag hJ hd
      have ag1 : a.tmps.getD 1 undef = .pointer (some ⟨gc, 0, none⟩) := hag.kept 1 (by kernel_rfl)
      clear hag
      go_wp2_with fail
      exact ⟨rfl, _, rfl, rfl, hJ, Below.refl _ _⟩
     ·intro a gh w5 hag hJ hd
      clear hag
      have e0 : a.tmps.getD 23 undef = .pointer (some ⟨gc, 2, none⟩) := hd 0 (by kernel_rfl) _ rfl
      have k2 := ((Lc.below hJ) 2 _ rfl).1
      go_wp2_with fail
      exact ⟨rfl, _, rfl, rfl, hJ, Below.refl _ _⟩
     ·intro a gh w5 hag hJ hd
      have ag1 : a.tmps.getD 1 undef = .pointer (some ⟨gc, 0, none⟩) := hag.kept 1 (by kernel_rfl)
      clear hag
      go_wp2_with fail
      exact ⟨rfl, _, rfl, rfl, hJ, Below.refl _ _⟩
     ·intro a gh w5 hag hJ hd
      clear hag
      have e0 : a.tmps.getD 25 undef = .pointer (some ⟨gc, 0, none⟩) := hd 2 (by kernel_rfl) _ rfl
      have k0 := ((Lc.below hJ) 0 _ rfl).1
      go_wp2_with fail
      exact ⟨rfl, _, rfl, rfl, hJ, Below.refl _ _⟩
     ·intro a gh w5 hag hJ hd
      clear hag
      have e0 : a.tmps.getD 26 undef = .int .i64 m := hd 3 (by kernel_rfl) _ rfl
      go_wp2_with fail
      refine (upTo_any m w5 (by omega)).mono ?_
      rintro e w6 ⟨v5, rfl, own5, hb5⟩
      obtain ⟨A5, c5, rfl, _, _⟩ := (RdS.of_own own5).form
      go_wp2_with fail
      exact ⟨rfl, _, rfl, ⟨A5, c5, rfl, own_mono own5 hJ.size⟩, bl_trans hJ hb5, hb5⟩
    ·intro a gh w5 hag hJ hd
     obtain ⟨x0, x1, x2, x3, x4, x5, x6, x7, x8, x9, x10, x11, x12, x13, x14, x15, x16, x17, x18, x19, x20, x21, x22, x23, x24, x25, x26, x27, x28, x29, rfl⟩ := act30wi hag.size hag.defers
     have ag0 : x0 = .agg #[.int .i64 m, .slice A1 cs.length n1, .slice A2 pl.length n2] := hag.kept 0 (by kernel_rfl)
     have ag1 : x1 = .pointer (some ⟨gc, 0, none⟩) := hag.kept 1 (by kernel_rfl)
     have ag2 : x2 = .int .i64 0 := hag.kept 2 (by kernel_rfl)
     clear hag
     subst ag0 ag1 ag2
     have e1 : x24 = .slice A2 pl.length n2 := hd 1 (by kernel_rfl) _ rfl
     obtain ⟨A5, c5, e2, own5⟩ : ∃ A c, x27 = .slice A (upN m).length c ∧ w5.ownsRow W.heap.size 3 1 (.slice A (upN m).length c) (upN m).length ((upN m).flatMap cInt) := hd 4 (by kernel_rfl) _ rfl
     subst e1 e2
     change wpList _ _ _ [_, _, _] _ _
     have hC := canPlay_any _ _ (upN m) pl w5 ((h0.below (hb.trans (hJ.mono hzW))).2) (RdS.of_own own5)
     obtain ⟨cb, hcb⟩ : ∃ cb, canF pl (upN m) = cb := ⟨_, rfl⟩
     rw [hcb] at hC
     have HCB := Lib.hid hcb
     have hb5 := hb.trans (hJ.mono hzW)
     clear hcb hJ hd own5
     go_wp2_with fail
     refine hC.mono ?_
     rintro e w6 ⟨rfl, hb6⟩
     have hb06 := bl_trans hb5 hb6
     cases cb
     ·have HW := Lib.hid (whyF_3 (n := m) Hq.out Ho.out (List.eq_nil_of_length_eq_zero HL.out) HCB.out)
      go_wp2_with fail
      go_ret
      exact ⟨by rw [HW.out] <;> rfl, hb06⟩
     ·have HW := Lib.hid (whyF_0 (n := m) Hq.out Ho.out (List.eq_nil_of_length_eq_zero HL.out) HCB.out)
      go_wp2_with fail
      go_ret
      exact ⟨by rw [HW.out] <;> rfl, hb06⟩
   ·have hgt : (0 : Int) < (wl : Int) := by omega
    have HW := Lib.hid (whyF_2 (n := m) (pl := pl) Hq.out Ho.out (fun e => hw0 (by rw [← HL0.out]; show (woundL ((m : Int)).toNat cs).length = 0; rw [e]; rfl)))
    go_wp2_with fail
    go_ret
    exact ⟨by rw [HW.out] <;> rfl, hb⟩
  ·have HW := Lib.hid (whyF_1 (n := m) (pl := pl) Hq.out HNO.out)
   go_wp2_with fail
   go_ret
   exact ⟨by rw [HW.out] <;> rfl, hb0z⟩
 ·have HW := Lib.hid (whyF_m hq.out)
  go_wp2_with fail
  go_ret
  exact ⟨by rw [HW.out] <;> rfl, bl_trans hbW hb1⟩
theorem act30ws {a : Act} (h : a.tmps.size = 30) (hd : a.defers = []) : ∃ x0 x1 x2 x3 x4 x5 x6 x7 x8 x9 x10 x11 x12 x13 x14 x15 x16 x17 x18 x19 x20 x21 x22 x23 x24 x25 x26 x27 x28 x29 : Value, a = ⟨#[x0, x1, x2, x3, x4, x5, x6, x7, x8, x9, x10, x11, x12, x13, x14, x15, x16, x17, x18, x19, x20, x21, x22, x23, x24, x25, x26, x27, x28, x29], []⟩ := by
 obtain ⟨⟨l⟩, d⟩ := a
 subst hd
 match l, h with
 | x0 :: x1 :: x2 :: x3 :: x4 :: x5 :: x6 :: x7 :: x8 :: x9 :: x10 :: x11 :: x12 :: x13 :: x14 :: x15 :: x16 :: x17 :: x18 :: x19 :: x20 :: x21 :: x22 :: x23 :: x24 :: x25 :: x26 :: x27 :: x28 :: x29 :: [], _ => exact ⟨x0, x1, x2, x3, x4, x5, x6, x7, x8, x9, x10, x11, x12, x13, x14, x15, x16, x17, x18, x19, x20, x21, x22, x23, x24, x25, x26, x27, x28, x29, rfl⟩
def pws (gc pn cn m n1 n2 B N : Nat) (A1 A2 : Option Addr) (xs : List Value) (i : Nat) (v : Value) (_ : Nat → Nat) (w : World) : Prop :=
 match i with
 | 0 => v = .pointer (some ⟨gc, 2, none⟩)
 | 1 => v = .slice A2 pn n2
 | 2 => v = .agg #[.int .i64 m, .slice A1 cn n1, .slice A2 pn n2]
 | 3 => ∃ A c, v = .slice A N c ∧ w.ownsRow B 3 1 (.slice A N c) N xs
 | _ => True
set_option maxHeartbeats 8000000 in
set_option maxRecDepth 100000 in
theorem specWhyNot_any (n : Int) (v1 v2 : Value) (cs : List RCross) (pl : List RPl) (w : World) (h : RdCompany w v1 v2 cs pl) :
  Calls Tryz.prog 33 #[.agg #[.int .i64 n, v1, v2]] w fun e w' => e = .returned (.int .i64 (whyF n cs pl)) ∧ Below w.heap.size w w' := by
 have h0 := h
 obtain ⟨⟨A1, n1, rfl⟩, ⟨A2, n2, rfl⟩⟩ := h.forms
 have hbW : Below w.heap.size w (w.alloc (.cells #[.int .i64 n, .slice A1 cs.length n1, .slice A2 pl.length n2] 35)) := by (repeat' (with_reducible first | exact Below.refl _ _ | assumption | refine qS ?_ _ | refine qA ?_ _ | refine qD ?_ | refine qN ?_ _))
 have Lc0 : Loc (w.alloc (.cells #[.int .i64 n, .slice A1 cs.length n1, .slice A2 pl.length n2] 35)) w.heap.size [.int .i64 n, .slice A1 cs.length n1, .slice A2 pl.length n2] := Loc.new w #[.int .i64 n, .slice A1 cs.length n1, .slice A2 pl.length n2] 35
 go_enter Tryz.func33, Tryz.ntmps33
 go_upto_region 1 with (fail)
 obtain ⟨gc, hgc⟩ : ∃ g, w.heap.size = g := ⟨_, rfl⟩
 rw [hgc] at Lc0
 generalize w.alloc (.cells #[.int .i64 n, .slice A1 cs.length n1, .slice A2 pl.length n2] 35) = W0 at *
 (try rw [hgc])
 have hgw : gc < W0.heap.size := World.block_lt_of_cell? _ _ (Lc0 0 _ rfl).1
 have c0 := (Lc0 0 _ rfl).1
 have c1 := (Lc0 1 _ rfl).1
 have c2 := (Lc0 2 _ rfl).1
 go_wp2_with fail
 refine twoB (specCompanyOk_any n _ _ cs pl _ (h0.below hbW)) (fun w1 hq hb1 => ?_) (fun w1 hq hb1 => ?_)
 ·have Hq := hq
  have hcr := (company_n hq.out).1
  obtain ⟨hn, hlen, hcs⟩ := crosses_len hcr
  obtain ⟨m, rfl⟩ := Int.eq_ofNat_of_zero_le (show 0 ≤ n by omega)
  have hm7 : m ≤ 7 := by omega
  have Hcr := Lib.hid hcr
  have hm1 : 1 ≤ m := by omega
  have Lc1 := Lc0.below hb1
  have hb01 := bl_trans hbW hb1
  have hr1 := (h0.below hb01).1
  have HO := Lib.hid (IsOrd.order hcs)
  clear c0 c1 c2 hb1 hbW Lc0 hcr hcs
  have c0 := (Lc1 0 _ rfl).1
  have c1 := (Lc1 1 _ rfl).1
  have c2 := (Lc1 2 _ rfl).1
  have hC := specOrderAfter_any (m : Int) _ cs w1 hr1
  rw [ordR_t Hcr.out] at hC
  go_wp2_with fail
  refine hC.mono ?_
  rintro e w2 ⟨v2, rfl, own2, hb2⟩
  have hr2 : RdL cInt 1 w2 v2 (orderF m cs) := RdS.of_own own2
  obtain ⟨B2, k2, rfl, _, _⟩ := hr2.form
  have hCI := specCountInv_any _ _ w2 hr2 (HO.out.okB ⟨hm1, hm7⟩)
  have HI : Hid (inv (orderF m cs) = 0 ↔ orderF m cs = upN m) := HO.out.inv_zero
  obtain ⟨ol, hol⟩ : ∃ ol, (orderF m cs).length = ol := ⟨_, rfl⟩
  rw [hol] at hCI hr2
  rw [hol]
  obtain ⟨I, hI⟩ : ∃ I, inv (orderF m cs) = I := ⟨_, rfl⟩
  rw [hI] at hCI HI
  have L2 := Lc1.below hb2
  have hb02 := bl_trans hb01 hb2
  clear own2 hb2 hC hol hI c0 c1 c2 Lc1 hb01 hr1
  go_wp2_with fail
  refine hCI.mono ?_
  rintro e wz ⟨rfl, hbz⟩
  have Lz := L2.below hbz
  have hb0z := bl_trans hb02 hbz
  clear hCI hr2 hbz hb02 L2
  by_cases hI0 : I = 0
  rotate_left
  ·have HNO : Hid (¬ orderF (m : Int).toNat cs = upN (m : Int).toNat) := fun e => hI0 (HI.out.2 e)
   have hI1 : ((I : Int) != 0) = true := by rw [bne_iff_ne]; omega
   have HW := Lib.hid (whyF_1 (n := m) (pl := pl) Hq.out HNO.out)
   go_wp2_with fail
   go_ret
   exact ⟨by rw [HW.out] <;> rfl, hb0z⟩
  have HOM : Hid (orderF (m : Int).toNat cs = upN (m : Int).toNat) := HI.out.1 hI0
  subst hI0
  clear HI
  ·have Ho : Hid (orderF (m : Int).toNat cs = upN (m : Int).toNat) := HOM
   have HU : Hid (∀ W v, RdL cCross 2 W v cs → Calls Tryz.prog 46 #[.int .i64 m, v] W fun e w' => ∃ v', e = .returned v' ∧ RowsX [] W.heap.size w' v' (woundL m cs) ∧ Below W.heap.size W w') := fun W v hr => specWound_any m v cs W hr Hcr.out
   have hCU := HU.out wz _ ((h0.below hb0z).1)
   clear HU HOM
   have c0 := (Lz 0 _ rfl).1
   have c1 := (Lz 1 _ rfl).1
   go_wp2_with fail
   refine hCU.mono ?_
   rintro e w3 ⟨vw, rfl, hrx, hb3⟩
   obtain ⟨Aw, cw, rfl, _, _⟩ := hrx.rd.form
   obtain ⟨wl, hwl⟩ : ∃ wl, (woundL m cs).length = wl := ⟨_, rfl⟩
   rw [hwl]
   have HL0 := Lib.hid hwl
   have Lc3 := Lz.below hb3
   have hb := bl_trans hb0z hb3
   have hzW := hb.size
   clear hCU hrx c0 c1 Lz hb3 hb0z hwl
   by_cases hw0 : wl = 0
   ·subst hw0
    have HL := HL0
    have Lc := Lc3
    obtain ⟨W, hW⟩ : ∃ W, w3 = W := ⟨_, rfl⟩
    subst hW
    go_upto_region 7 with (fail)
    obtain ⟨W, hW⟩ : ∃ W, w3 = W := ⟨_, rfl⟩
    rw [hW] at hb hzW Lc ⊢
    clear Lc3 HL0 hW
    have HAP : Hid (∀ W, RdCompany W (.slice A1 cs.length n1) (.slice A2 pl.length n2) cs pl → Calls Tryz.prog 79 #[.agg #[.int .i64 m, .slice A1 cs.length n1, .slice A2 pl.length n2]] W fun e w' => ∃ v', e = .returned v' ∧ w'.ownsRow W.heap.size 3 1 v' (upN m).length ((upN m).flatMap cInt) ∧ Below W.heap.size W w') := fun W hr => by
     have := specAllPuppets_any m _ _ cs pl W hr
     rwa [allPF_t Hq.out] at this
    go_upto_region 7 with (fail)
    refine region_made (n := 30) 4 (by kernel_rfl) rfl (by kernel_rfl) (fun w' => Below W.heap.size W w') (fun _ => 0) (pws gc pl.length cs.length m n1 n2 W.heap.size (upN m).length A1 A2 ((upN m).flatMap cInt)) (Below.refl _ _).drew ?_ ?_ ?_
    ·intro i v gh gh' w1 w2 hp hJ hb' hg
     match i, hp with
     | 0, hp => exact hp
     | 1, hp => exact hp
     | 2, hp => exact hp
     | 3, ⟨A', c', hv, ho⟩ => exact ⟨A', c', hv, own_below ho hb'⟩
     | _ + 4, _ => trivial
    ·refine ⟨?_, ?_, ?_, ?_, trivial⟩
     ·intro a gh w5 hag hJ hd
      have ag1 : a.tmps.getD 1 undef = .pointer (some ⟨gc, 0, none⟩) := hag.kept 1 (by kernel_rfl)
      clear hag
      go_wp2_with fail
      exact ⟨rfl, _, rfl, rfl, hJ, Below.refl _ _⟩
     ·intro a gh w5 hag hJ hd
      clear hag
      have e0 : a.tmps.getD 24 undef = .pointer (some ⟨gc, 2, none⟩) := hd 0 (by kernel_rfl) _ rfl
      have k2 := ((Lc.below hJ) 2 _ rfl).1
      go_wp2_with fail
      exact ⟨rfl, _, rfl, rfl, hJ, Below.refl _ _⟩
     ·intro a gh w5 hag hJ hd
      have ag1 : a.tmps.getD 1 undef = .pointer (some ⟨gc, 0, none⟩) := hag.kept 1 (by kernel_rfl)
      clear hag
      have k0 := ((Lc.below hJ) 0 _ rfl).1
      have k1 := ((Lc.below hJ) 1 _ rfl).1
      have k2 := ((Lc.below hJ) 2 _ rfl).1
      go_wp2_with fail
      exact ⟨rfl, _, rfl, rfl, hJ, Below.refl _ _⟩
     ·intro a gh w5 hag hJ hd
      clear hag
      have e0 : a.tmps.getD 26 undef = .agg #[.int .i64 m, .slice A1 cs.length n1, .slice A2 pl.length n2] := hd 2 (by kernel_rfl) _ rfl
      go_wp2_with fail
      refine (HAP.out w5 (h0.below (hb.trans (hJ.mono hzW)))).mono ?_
      rintro e w6 ⟨v5, rfl, own5, hb5⟩
      obtain ⟨A5, c5, rfl, _, _⟩ := (RdS.of_own own5).form
      go_wp2_with fail
      exact ⟨rfl, _, rfl, ⟨A5, c5, rfl, own_mono own5 hJ.size⟩, bl_trans hJ hb5, hb5⟩
    ·intro a gh w5 hag hJ hd
     obtain ⟨x0, x1, x2, x3, x4, x5, x6, x7, x8, x9, x10, x11, x12, x13, x14, x15, x16, x17, x18, x19, x20, x21, x22, x23, x24, x25, x26, x27, x28, x29, rfl⟩ := act30ws hag.size hag.defers
     have ag0 : x0 = .agg #[.int .i64 m, .slice A1 cs.length n1, .slice A2 pl.length n2] := hag.kept 0 (by kernel_rfl)
     have ag1 : x1 = .pointer (some ⟨gc, 0, none⟩) := hag.kept 1 (by kernel_rfl)
     have ag2 : x2 = .int .i64 0 := hag.kept 2 (by kernel_rfl)
     clear hag
     subst ag0 ag1 ag2
     have e1 : x25 = .slice A2 pl.length n2 := hd 1 (by kernel_rfl) _ rfl
     obtain ⟨A5, c5, e2, own5⟩ : ∃ A c, x27 = .slice A (upN m).length c ∧ w5.ownsRow W.heap.size 3 1 (.slice A (upN m).length c) (upN m).length ((upN m).flatMap cInt) := hd 3 (by kernel_rfl) _ rfl
     subst e1 e2
     change wpList _ _ _ [_, _, _] _ _
     have hC := l17Can_any _ _ (upN m) pl w5 ((h0.below (hb.trans (hJ.mono hzW))).2) (RdS.of_own own5)
     obtain ⟨cb, hcb⟩ : ∃ cb, canF pl (upN m) = cb := ⟨_, rfl⟩
     rw [hcb] at hC
     have HCB := Lib.hid hcb
     have hb5 := hb.trans (hJ.mono hzW)
     clear hcb hJ hd own5
     go_wp2_with fail
     refine hC.mono ?_
     rintro e w6 ⟨rfl, hb6⟩
     have hb06 := bl_trans hb5 hb6
     cases cb
     ·have HW := Lib.hid (whyF_3 (n := m) Hq.out Ho.out (List.eq_nil_of_length_eq_zero HL.out) HCB.out)
      go_wp2_with fail
      go_ret
      exact ⟨by rw [HW.out] <;> rfl, hb06⟩
     ·have HW := Lib.hid (whyF_0 (n := m) Hq.out Ho.out (List.eq_nil_of_length_eq_zero HL.out) HCB.out)
      go_wp2_with fail
      go_ret
      exact ⟨by rw [HW.out] <;> rfl, hb06⟩
   ·have hgt : (0 : Int) < (wl : Int) := by omega
    have HW := Lib.hid (whyF_2 (n := m) (pl := pl) Hq.out Ho.out (fun e => hw0 (by rw [← HL0.out]; show (woundL ((m : Int)).toNat cs).length = 0; rw [e]; rfl)))
    go_wp2_with fail
    go_ret
    exact ⟨by rw [HW.out] <;> rfl, hb⟩
 ·have HW := Lib.hid (whyF_m hq.out)
  go_wp2_with fail
  go_ret
  exact ⟨by rw [HW.out] <;> rfl, bl_trans hbW hb1⟩
open Go.RowKit
def showF (t : Th) (d : Int) : Th × Bool := becF t ⟨t.n, wrap64 (t.m + 30), t.cs, t.pl, (addF t.ds d).1⟩ ((addF t.ds d).2 && (whyF t.n t.cs t.pl == 0))
theorem act36gs0 {a : Act} (h : a.tmps.size = 36) (hd : a.defers = []) : ∃ x0 x1 x2 x3 x4 x5 x6 x7 x8 x9 x10 x11 x12 x13 x14 x15 x16 x17 x18 x19 x20 x21 x22 x23 x24 x25 x26 x27 x28 x29 x30 x31 x32 x33 x34 x35 : Value, a = ⟨#[x0, x1, x2, x3, x4, x5, x6, x7, x8, x9, x10, x11, x12, x13, x14, x15, x16, x17, x18, x19, x20, x21, x22, x23, x24, x25, x26, x27, x28, x29, x30, x31, x32, x33, x34, x35], []⟩ := by
 obtain ⟨⟨l⟩, d⟩ := a
 subst hd
 match l, h with
 | x0 :: x1 :: x2 :: x3 :: x4 :: x5 :: x6 :: x7 :: x8 :: x9 :: x10 :: x11 :: x12 :: x13 :: x14 :: x15 :: x16 :: x17 :: x18 :: x19 :: x20 :: x21 :: x22 :: x23 :: x24 :: x25 :: x26 :: x27 :: x28 :: x29 :: x30 :: x31 :: x32 :: x33 :: x34 :: x35 :: [], _ => exact ⟨x0, x1, x2, x3, x4, x5, x6, x7, x8, x9, x10, x11, x12, x13, x14, x15, x16, x17, x18, x19, x20, x21, x22, x23, x24, x25, x26, x27, x28, x29, x30, x31, x32, x33, x34, x35, rfl⟩
def pgs0 (_w : World) (n m : Int) (A1 A2 A3 B1 B2 C1 : Option Addr) (cs : List RCross) (pl : List RPl) (ds ds' : List Int) (n1 n2 n3 k1 k2 l1 : Nat) (_gc _go : Nat) (_wy : Int) (_wb : Bool) (rn rm : Int) (rcs : List RCross) (rpl : List RPl) (rds : List Int) (rb : Bool) (B0 : Nat) (i : Nat) (v : Value) (_ : Nat → Nat) (w : World) : Prop :=
 match i with
 | 0 => v = .agg #[.int .i64 n, .slice A1 cs.length n1, .slice A2 pl.length n2, .slice A3 ds.length n3, .int .i64 m]
 | 1 => v = .agg #[.int .i64 n, .slice B1 cs.length k1, .slice B2 pl.length k2, .slice C1 ds'.length l1, .int .i64 (wrap64 (m + 30))]
 | 2 => v = .bool false
 | 3 => v = .bool false
 | 4 => True
 | 5 => True
 | 6 => True
 | 7 => True
 | 8 => v = .bool false
 | 9 => ∃ Z1 e1 Z2 e2 Z3 e3 T, v = .tuple #[.agg #[.int .i64 rn, .slice Z1 rcs.length e1, .slice Z2 rpl.length e2, .slice Z3 rds.length e3, .int .i64 rm], .bool rb] ∧ OwTheatre w T (.slice Z1 rcs.length e1) (.slice Z2 rpl.length e2) (.slice Z3 rds.length e3) rcs rpl rds ∧ Fresh B0 w T
 | 10 => ∃ Z1 e1 Z2 e2 Z3 e3 T, v = .agg #[.int .i64 rn, .slice Z1 rcs.length e1, .slice Z2 rpl.length e2, .slice Z3 rds.length e3, .int .i64 rm] ∧ OwTheatre w T (.slice Z1 rcs.length e1) (.slice Z2 rpl.length e2) (.slice Z3 rds.length e3) rcs rpl rds ∧ Fresh B0 w T
 | 11 => v = .bool rb
 | _ => True
theorem act36gs1 {a : Act} (h : a.tmps.size = 36) (hd : a.defers = []) : ∃ x0 x1 x2 x3 x4 x5 x6 x7 x8 x9 x10 x11 x12 x13 x14 x15 x16 x17 x18 x19 x20 x21 x22 x23 x24 x25 x26 x27 x28 x29 x30 x31 x32 x33 x34 x35 : Value, a = ⟨#[x0, x1, x2, x3, x4, x5, x6, x7, x8, x9, x10, x11, x12, x13, x14, x15, x16, x17, x18, x19, x20, x21, x22, x23, x24, x25, x26, x27, x28, x29, x30, x31, x32, x33, x34, x35], []⟩ := by
 obtain ⟨⟨l⟩, d⟩ := a
 subst hd
 match l, h with
 | x0 :: x1 :: x2 :: x3 :: x4 :: x5 :: x6 :: x7 :: x8 :: x9 :: x10 :: x11 :: x12 :: x13 :: x14 :: x15 :: x16 :: x17 :: x18 :: x19 :: x20 :: x21 :: x22 :: x23 :: x24 :: x25 :: x26 :: x27 :: x28 :: x29 :: x30 :: x31 :: x32 :: x33 :: x34 :: x35 :: [], _ => exact ⟨x0, x1, x2, x3, x4, x5, x6, x7, x8, x9, x10, x11, x12, x13, x14, x15, x16, x17, x18, x19, x20, x21, x22, x23, x24, x25, x26, x27, x28, x29, x30, x31, x32, x33, x34, x35, rfl⟩
def pgs1 (_w : World) (n m : Int) (A1 A2 A3 B1 B2 C1 : Option Addr) (cs : List RCross) (pl : List RPl) (ds ds' : List Int) (n1 n2 n3 k1 k2 l1 : Nat) (gc _go : Nat) (wy : Int) (wb : Bool) (rn rm : Int) (rcs : List RCross) (rpl : List RPl) (rds : List Int) (rb : Bool) (B0 : Nat) (i : Nat) (v : Value) (_ : Nat → Nat) (w : World) : Prop :=
 match i with
 | 0 => v = .agg #[.int .i64 n, .slice A1 cs.length n1, .slice A2 pl.length n2, .slice A3 ds.length n3, .int .i64 m]
 | 1 => v = .agg #[.int .i64 n, .slice B1 cs.length k1, .slice B2 pl.length k2, .slice C1 ds'.length l1, .int .i64 (wrap64 (m + 30))]
 | 2 => v = .bool true
 | 3 => v = .bool true
 | 4 => v = .pointer (some ⟨gc, 0, none⟩)
 | 5 => v = .agg #[.int .i64 n, .slice A1 cs.length n1, .slice A2 pl.length n2]
 | 6 => v = .int .i64 wy
 | 7 => v = .bool wb
 | 8 => v = .bool wb
 | 9 => ∃ Z1 e1 Z2 e2 Z3 e3 T, v = .tuple #[.agg #[.int .i64 rn, .slice Z1 rcs.length e1, .slice Z2 rpl.length e2, .slice Z3 rds.length e3, .int .i64 rm], .bool rb] ∧ OwTheatre w T (.slice Z1 rcs.length e1) (.slice Z2 rpl.length e2) (.slice Z3 rds.length e3) rcs rpl rds ∧ Fresh B0 w T
 | 10 => ∃ Z1 e1 Z2 e2 Z3 e3 T, v = .agg #[.int .i64 rn, .slice Z1 rcs.length e1, .slice Z2 rpl.length e2, .slice Z3 rds.length e3, .int .i64 rm] ∧ OwTheatre w T (.slice Z1 rcs.length e1) (.slice Z2 rpl.length e2) (.slice Z3 rds.length e3) rcs rpl rds ∧ Fresh B0 w T
 | 11 => v = .bool rb
 | _ => True
set_option maxHeartbeats 8000000 in
set_option maxRecDepth 100000 in
theorem implGiveShow_any (n m dy : Int) (v1 v2 v3 : Value) (cs : List RCross) (pl : List RPl) (ds : List Int) (w : World) (h : RdTheatre w v1 v2 v3 cs pl ds) (hsz : szTheatre cs pl ds ≤ 1048576) :
  Calls Tryz.prog 34 #[.agg #[.int .i64 n, v1, v2, v3, .int .i64 m], .int .i64 dy] w (RetTh w.heap.size (showF ⟨n, m, cs, pl, ds⟩ dy) w) := by
 obtain ⟨⟨A1, n1, rfl⟩, ⟨A2, n2, rfl⟩, ⟨A3, n3, rfl⟩⟩ := h.forms
 have hszd : ds.length ≤ 1048576 := by unfold szTheatre at hsz; omega
 unfold showF
 obtain ⟨⟨⟨rn, rm, rcs, rpl, rds⟩, rb⟩, hres⟩ : ∃ res, becF ⟨n, m, cs, pl, ds⟩ ⟨n, wrap64 (m + 30), cs, pl, (addF ds dy).1⟩ ((addF ds dy).2 && (whyF n cs pl == 0)) = res := ⟨_, rfl⟩
 rw [hres]
 change Calls _ _ _ _ (RetT w.heap.size rn rm rb rcs rpl rds w)
 have Hres := Lib.hid hres
 clear hres
 go_enter Tryz.func34, Tryz.ntmps34
 go_wp2_with fail
 refine (theatreCopied_any n m _ _ _ cs pl ds _ (h.below (by (repeat' (with_reducible first | exact Below.refl _ _ | assumption | refine qS ?_ _ | refine qA ?_ _ | refine qD ?_ | refine qN ?_ _)))) hsz).mono ?_
 rintro e W1 ⟨x1, x2, x3, S, rfl, ow, f1, q⟩
 obtain ⟨⟨B1, k1, rfl⟩, ⟨B2, k2, rfl⟩, ⟨B3, k3, rfl⟩⟩ := ow.rd.forms
 have Lc : Loc W1 (w.heap.size) [.int .i64 n, .slice A1 cs.length n1, .slice A2 pl.length n2, .slice A3 ds.length n3, .int .i64 m] := by have := ((Loc.new w #[.int .i64 n, .slice A1 cs.length n1, .slice A2 pl.length n2, .slice A3 ds.length n3, .int .i64 m] 37).alloc _).below q; simpa using this
 have Lr : Loc W1 (w.heap.size + 1) [.int .i64 0, .slice none 0 0, .slice none 0 0, .slice none 0 0, .int .i64 0] := by have := (Loc.new (w.alloc (.cells #[.int .i64 n, .slice A1 cs.length n1, .slice A2 pl.length n2, .slice A3 ds.length n3, .int .i64 m] 37)) #[.int .i64 0, .slice none 0 0, .slice none 0 0, .slice none 0 0, .int .i64 0] 37).below q; simpa using this
 have hb : Below w.heap.size w W1 := Below.trans (by (repeat' (with_reducible first | exact Below.refl _ _ | assumption | refine qS ?_ _ | refine qA ?_ _ | refine qD ?_ | refine qN ?_ _))) (q.mono (by simp <;> omega))
 have hz0 : w.heap.size + 1 + 1 ≤ W1.heap.size := by have := q.size; simp at this; omega
 have hlow : w.heap.size + 1 + 1 ≤ (((w.alloc (.cells #[.int .i64 n, .slice A1 cs.length n1, .slice A2 pl.length n2, .slice A3 ds.length n3, .int .i64 m] 37)).alloc (.cells #[.int .i64 0, .slice none 0 0, .slice none 0 0, .slice none 0 0, .int .i64 0] 37))).heap.size := by first | exact Nat.le_refl _ | (simp; done) | (simp; omega) | omega
 have FK := Lib.hid (fresh_mono f1 hlow (Nat.le_refl _))
 have DK : Hid (∀ x ∈ S, x ∉ [w.heap.size, w.heap.size + 1]) := (fun x hx => by have := (FK.out.2 x hx).1; simp; omega)
 have OK := Lib.hid ow
 clear ow f1 hlow
 clear q
 go_upto_region 2 with (fail)
 replace Lc : Loc (W1.alloc (.cells #[.int .i64 n, .slice B1 cs.length k1, .slice B2 pl.length k2, .slice B3 ds.length k3, .int .i64 m] 37)) (w.heap.size) [.int .i64 n, .slice A1 cs.length n1, .slice A2 pl.length n2, .slice A3 ds.length n3, .int .i64 m] := Lc.alloc _
 replace Lr : Loc (W1.alloc (.cells #[.int .i64 n, .slice B1 cs.length k1, .slice B2 pl.length k2, .slice B3 ds.length k3, .int .i64 m] 37)) (w.heap.size + 1) [.int .i64 0, .slice none 0 0, .slice none 0 0, .slice none 0 0, .int .i64 0] := Lr.alloc _
 obtain ⟨go, hgo⟩ : ∃ g, W1.heap.size = g := ⟨_, rfl⟩
 have Lo : Loc (W1.alloc (.cells #[.int .i64 n, .slice B1 cs.length k1, .slice B2 pl.length k2, .slice B3 ds.length k3, .int .i64 m] 37)) W1.heap.size [.int .i64 n, .slice B1 cs.length k1, .slice B2 pl.length k2, .slice B3 ds.length k3, .int .i64 m] := Loc.new W1 #[.int .i64 n, .slice B1 cs.length k1, .slice B2 pl.length k2, .slice B3 ds.length k3, .int .i64 m] 37
 rw [hgo] at Lo
 replace OK := Lib.hid (OK.out.below (w' := (W1.alloc (.cells #[.int .i64 n, .slice B1 cs.length k1, .slice B2 pl.length k2, .slice B3 ds.length k3, .int .i64 m] 37))) ((Below.refl _ _).alloc (Nat.le_refl _) _))
 replace DK : Hid (∀ x ∈ S, x ∉ [w.heap.size, w.heap.size + 1, go]) := (fun x hx => by have := DK.out x hx; have := (FK.out.2 x hx).2; simp at *; omega)
 replace FK := Lib.hid (fresh_mono (w' := (W1.alloc (.cells #[.int .i64 n, .slice B1 cs.length k1, .slice B2 pl.length k2, .slice B3 ds.length k3, .int .i64 m] 37))) FK.out (Nat.le_refl _) (by simp))
 replace hb : Below w.heap.size w (W1.alloc (.cells #[.int .i64 n, .slice B1 cs.length k1, .slice B2 pl.length k2, .slice B3 ds.length k3, .int .i64 m] 37)) := hb.alloc hb.size _
 have hlto : go < (W1.alloc (.cells #[.int .i64 n, .slice B1 cs.length k1, .slice B2 pl.length k2, .slice B3 ds.length k3, .int .i64 m] 37)).heap.size := by simp; omega
 have hne_c_o : w.heap.size < go := by omega
 have hne_r_o : w.heap.size + 1 < go := by omega
 generalize W1.alloc (.cells #[.int .i64 n, .slice B1 cs.length k1, .slice B2 pl.length k2, .slice B3 ds.length k3, .int .i64 m] 37) = W2 at *
 rw [hgo]
 clear hgo
 obtain ⟨SK1, SK3, eK, oK, pK⟩ := OK.out
 have FKx := FK.out
 have DKx := DK.out
 rw [eK] at FKx DKx
 have OK1 := Lib.hid oK
 have OK3 := Lib.hid pK
 have FK1 := Lib.hid (fresh_left FKx)
 have FK3 := Lib.hid (fresh_right FKx)
 have DK1 : Hid (∀ x ∈ SK1, x ∉ [w.heap.size, w.heap.size + 1, go]) := (fun x hx => DKx x (List.mem_append_left _ hx))
 have DK3 : Hid (∀ x ∈ SK3, x ∉ [w.heap.size, w.heap.size + 1, go]) := (fun x hx => DKx x (List.mem_append_right _ hx))
 have JK : Hid (∀ x ∈ SK1, x ∉ SK3) := (nodup2 FKx.1).2.2.1
 clear OK FK DK FKx DKx oK pK
 have hU1 : ∀ x ∈ SK1, x < W2.heap.size := fun x hx => (FK1.out.2 x hx).2
 have o3 := (Lo 3 _ rfl).1
 go_wp2_with fail
 refine (implAddShow_any _ ds dy _ OK3.out.rd hszd).mono ?_
 rintro e W3 ⟨x4, SX, rfl, ox, fx, q⟩
 clear o3
 obtain ⟨C1, l1, rfl, _, _⟩ := ox.rd.form
 have hzq : W2.heap.size ≤ W3.heap.size := by have := q.size; (try simp at this); omega
 replace Lc := Lc.below q
 replace Lr := Lr.below q
 replace Lo := Lo.below q
 replace OK1 := Lib.hid (OK1.out.below q)
 replace FK1 := Lib.hid (fresh_mono (w' := W3) FK1.out (Nat.le_refl _) hzq)
 replace OK3 := Lib.hid (OK3.out.below q)
 replace FK3 := Lib.hid (fresh_mono (w' := W3) FK3.out (Nat.le_refl _) hzq)
 replace hb : Below w.heap.size w W3 := hb.trans (q.mono hb.size)
 have hlow : W2.heap.size ≤ W2.heap.size := by first | exact Nat.le_refl _ | (simp; done) | (simp; omega) | omega
 have FX := Lib.hid (fresh_mono fx hlow (Nat.le_refl _))
 have DX : Hid (∀ x ∈ SX, x ∉ [w.heap.size, w.heap.size + 1, go]) := (fun x hx => by have := (FX.out.2 x hx).1; simp; omega)
 have OX := Lib.hid ox
 clear ox fx hlow
 clear q
 generalize (addF ds dy).2 = okc at *
 generalize (addF ds dy).1 = ds' at *
 have J1X : Hid (∀ x ∈ SK1, x ∉ SX) := (fun x hx hx' => by have := (FX.out.2 x hx').1; have := hU1 x hx; omega)
 clear hU1
 clear OK3 FK3 DK3
 have o0 := (Lo 0 _ rfl).1
 have of0 := (Lo 0 _ rfl).2
 have o1 := (Lo 1 _ rfl).1
 have of1 := (Lo 1 _ rfl).2
 have o2 := (Lo 2 _ rfl).1
 have of2 := (Lo 2 _ rfl).2
 have o3 := (Lo 3 _ rfl).1
 have of3 := (Lo 3 _ rfl).2
 have o4 := (Lo 4 _ rfl).1
 have of4 := (Lo 4 _ rfl).2
 go_upto_region 4 with (fail)
 clear o0 of0 o1 of1 o2 of2 o3 of3 o4 of4
 replace Lc := Lc.far (g := go) (i := 3) (u := .slice C1 ds'.length l1) (by omega)
 replace Lr := Lr.far (g := go) (i := 3) (u := .slice C1 ds'.length l1) (by omega)
 replace Lo : Loc (W3.setCell ⟨go, 3, none⟩ (.slice C1 ds'.length l1)) (go) [.int .i64 n, .slice B1 cs.length k1, .slice B2 pl.length k2, .slice C1 ds'.length l1, .int .i64 m] := Lo.set (i := 3) (v := .slice B3 ds.length k3) rfl
 have hch : Chg [go] W3 (W3.setCell ⟨go, 3, none⟩ (.slice C1 ds'.length l1)) := chg_set (Chg.refl _ _) (by simp)
 replace OK1 := Lib.hid (OK1.out.chg hch (fun x hx hx' => DK1.out x hx (by simp at hx'; subst hx'; simp)))
 replace FK1 := Lib.hid (fresh_mono (w' := (W3.setCell ⟨go, 3, none⟩ (.slice C1 ds'.length l1))) FK1.out (Nat.le_refl _) hch.size)
 replace OX := Lib.hid (OX.out.chg hch (fun x hx hx' => DX.out x hx (by simp at hx'; subst hx'; simp)))
 replace FX := Lib.hid (fresh_mono (w' := (W3.setCell ⟨go, 3, none⟩ (.slice C1 ds'.length l1))) FX.out (Nat.le_refl _) hch.size)
 replace hb : Below w.heap.size w (W3.setCell ⟨go, 3, none⟩ (.slice C1 ds'.length l1)) := Below.chg hb hch hb.size (by simp; omega)
 have hzc := hch.size
 clear hch
 generalize W3.setCell ⟨go, 3, none⟩ (.slice C1 ds'.length l1) = W4 at *
 have o4 := (Lo 4 _ rfl).1
 have c4 := (Lc 4 _ rfl).1
 have of4 := (Lo 4 _ rfl).2
 go_upto_region 5 with (fail)
 clear o4 c4 of4
 replace Lc := Lc.far (g := go) (i := 4) (u := .int .i64 (wrap64 (m + 30))) (by omega)
 replace Lr := Lr.far (g := go) (i := 4) (u := .int .i64 (wrap64 (m + 30))) (by omega)
 replace Lo : Loc (W4.setCell ⟨go, 4, none⟩ (.int .i64 (wrap64 (m + 30)))) (go) [.int .i64 n, .slice B1 cs.length k1, .slice B2 pl.length k2, .slice C1 ds'.length l1, .int .i64 (wrap64 (m + 30))] := Lo.set (i := 4) (v := .int .i64 m) rfl
 have hch : Chg [go] W4 (W4.setCell ⟨go, 4, none⟩ (.int .i64 (wrap64 (m + 30)))) := chg_set (Chg.refl _ _) (by simp)
 replace OK1 := Lib.hid (OK1.out.chg hch (fun x hx hx' => DK1.out x hx (by simp at hx'; subst hx'; simp)))
 replace FK1 := Lib.hid (fresh_mono (w' := (W4.setCell ⟨go, 4, none⟩ (.int .i64 (wrap64 (m + 30))))) FK1.out (Nat.le_refl _) hch.size)
 replace OX := Lib.hid (OX.out.chg hch (fun x hx hx' => DX.out x hx (by simp at hx'; subst hx'; simp)))
 replace FX := Lib.hid (fresh_mono (w' := (W4.setCell ⟨go, 4, none⟩ (.int .i64 (wrap64 (m + 30))))) FX.out (Nat.le_refl _) hch.size)
 replace hb : Below w.heap.size w (W4.setCell ⟨go, 4, none⟩ (.int .i64 (wrap64 (m + 30)))) := Below.chg hb hch hb.size (by simp; omega)
 have hzc := hch.size
 clear hch
 generalize W4.setCell ⟨go, 4, none⟩ (.int .i64 (wrap64 (m + 30))) = W5 at *
 replace FX := Lib.hid (fresh_mono (B' := w.heap.size + 1 + 1) FX.out (by omega) (Nat.le_refl _))
 have OP : OwTheatre W5 (SK1 ++ SX) (.slice B1 cs.length k1) (.slice B2 pl.length k2) (.slice C1 ds'.length l1) cs pl ds' := ⟨_, _, rfl, OK1.out, OX.out⟩
 have FQ := Lib.hid (fresh_join FK1.out FX.out (J1X.out))
 have DQ : Hid (∀ x ∈ SK1 ++ SX, x ∉ [w.heap.size, w.heap.size + 1, go]) := (fun x hx => (List.mem_append.1 hx).elim (DK1.out x) (DX.out x))
 have OQ := Lib.hid (OP)
 clear OK1 FK1 DK1 OX FX DX
 obtain ⟨SQ, hSQ⟩ : ∃ T, SK1 ++ SX = T := ⟨_, rfl⟩
 rw [hSQ] at OQ FQ DQ
 clear hSQ
 clear OP
 have hWN : Hid (∀ w', RdCompany w' (.slice A1 cs.length n1) (.slice A2 pl.length n2) cs pl → Calls Tryz.prog 54 #[.agg #[.int .i64 n, .slice A1 cs.length n1, .slice A2 pl.length n2]] w' fun e w'' => e = .returned (.int .i64 (whyF n cs pl)) ∧ Below w'.heap.size w' w'') := fun w' hr => implWhyNot_any n _ _ cs pl w' hr
 have hrd : RdTheatre W5 (.slice A1 cs.length n1) (.slice A2 pl.length n2) (.slice A3 ds.length n3) cs pl ds := h.below hb
 have HRD := Lib.hid hrd
 clear hrd
 generalize whyF n cs pl = wy at *
 obtain ⟨wb, hwb⟩ : ∃ wb, (wy == 0) = wb := ⟨_, rfl⟩
 rw [hwb] at Hres
 have HWB := Lib.hid hwb
 clear hwb
 cases okc
 ·skip
  refine region_guardedL (n := 36) 12 (by kernel_rfl) rfl (by kernel_rfl) [3] (by kernel_rfl) (fun j => if j = 3 then false else false) (fun w' => Below W5.heap.size W5 w') (fun _ => 0) (pgs0 w n m A1 A2 A3 B1 B2 C1 cs pl ds ds' n1 n2 n3 k1 k2 l1 (w.heap.size) (go) wy wb rn rm rcs rpl rds rb (w.heap.size + 1 + 1)) ⟨fun _ _ _ h => h, trivial⟩ (Below.refl _ _).drew ?_ ?_ ?_
  ·intro i v gh gh' w1 w2 hp hJ hb' hg
   match i, hp with
   | 0, hp => exact hp
   | 1, hp => exact hp
   | 2, hp => exact hp
   | 3, hp => exact hp
   | 4, hp => exact hp
   | 5, hp => exact hp
   | 6, hp => exact hp
   | 7, hp => exact hp
   | 8, hp => exact hp
   | 9, ⟨Z1, e1, Z2, e2, Z3, e3, T, hv, ho, hf⟩ => exact ⟨Z1, e1, Z2, e2, Z3, e3, T, hv, ho.below hb', fresh_mono hf (Nat.le_refl _) hb'.size⟩
   | 10, ⟨Z1, e1, Z2, e2, Z3, e3, T, hv, ho, hf⟩ => exact ⟨Z1, e1, Z2, e2, Z3, e3, T, hv, ho.below hb', fresh_mono hf (Nat.le_refl _) hb'.size⟩
   | 11, hp => exact hp
   | _ + 12, _ => trivial
  ·refine ⟨?_, ?_, ?_, ?_, ?_, ?_, ?_, ?_, ?_, ?_, ?_, ?_, trivial⟩
   ·intro a gh w5 hag hJ hd
    dsimp only [bareO]
    have ag2 : a.tmps.getD 2 undef = .pointer (some ⟨w.heap.size, 0, none⟩) := hag.kept 2 (by kernel_rfl)
    clear hag
    have c0 := ((Lc.below hJ) 0 _ rfl).1
    have c1 := ((Lc.below hJ) 1 _ rfl).1
    have c2 := ((Lc.below hJ) 2 _ rfl).1
    have c3 := ((Lc.below hJ) 3 _ rfl).1
    have c4 := ((Lc.below hJ) 4 _ rfl).1
    go_wp2_with fail
    exact ⟨rfl, _, rfl, rfl, hJ, Below.refl _ _⟩
   ·intro a gh w5 hag hJ hd
    dsimp only [bareO]
    have ag6 : a.tmps.getD 6 undef = .pointer (some ⟨go, 0, none⟩) := hag.kept 6 (by kernel_rfl)
    clear hag
    have o0 := ((Lo.below hJ) 0 _ rfl).1
    have o1 := ((Lo.below hJ) 1 _ rfl).1
    have o2 := ((Lo.below hJ) 2 _ rfl).1
    have o3 := ((Lo.below hJ) 3 _ rfl).1
    have o4 := ((Lo.below hJ) 4 _ rfl).1
    go_wp2_with fail
    exact ⟨rfl, _, rfl, rfl, hJ, Below.refl _ _⟩
   ·intro a gh w5 hag hJ hd
    dsimp only [bareO]
    have ag8 : a.tmps.getD 8 undef = .bool false := hag.kept 8 (by kernel_rfl)
    clear hag
    go_wp2_with fail
    exact ⟨rfl, _, rfl, rfl, hJ, Below.refl _ _⟩
   ·intro a gh w5 hag hJ hd
    dsimp only [bareO]
    clear hag
    have e0 : a.tmps.getD 26 undef = .bool false := hd 2 (by kernel_rfl) _ rfl
    go_wp2_with fail
    exact ⟨rfl, _, rfl, rfl, hJ, Below.refl _ _⟩
   ·intro gh w5; trivial
   ·intro gh w5; trivial
   ·intro gh w5; trivial
   ·intro gh w5; trivial
   ·intro a gh w5 hag hJ hd
    dsimp only [bareO]
    clear hag
    have e0 : a.tmps.getD 27 undef = .bool false := hd 3 (by kernel_rfl) _ rfl
    go_wp2_with fail
    exact ⟨rfl, _, rfl, rfl, hJ, Below.refl _ _⟩
   ·intro a gh w5 hag hJ hd
    dsimp only [bareO]
    clear hag
    have e0 : a.tmps.getD 24 undef = .agg #[.int .i64 n, .slice A1 cs.length n1, .slice A2 pl.length n2, .slice A3 ds.length n3, .int .i64 m] := hd 0 (by kernel_rfl) _ rfl
    have e1 : a.tmps.getD 25 undef = .agg #[.int .i64 n, .slice B1 cs.length k1, .slice B2 pl.length k2, .slice C1 ds'.length l1, .int .i64 (wrap64 (m + 30))] := hd 1 (by kernel_rfl) _ rfl
    have e2 : a.tmps.getD 32 undef = .bool false := hd 8 (by kernel_rfl) _ rfl
    go_wp2_with fail
    refine (becomes_eq (B := w.heap.size + 1 + 1) (S := SQ) Hres.out (HRD.out.below hJ) hsz (OQ.out.below hJ) (fresh_mono FQ.out (Nat.le_refl _) hJ.size) (by have := hb.size; have := hJ.size; omega)).mono ?_
    rintro e w6 ⟨z1, z2, z3, T, rfl, owr, fr, hb6⟩
    obtain ⟨⟨Z1, e1, rfl⟩, ⟨Z2, e2, rfl⟩, ⟨Z3, e3, rfl⟩⟩ := owr.rd.forms
    go_wp2_with fail
    exact ⟨rfl, _, rfl, ⟨_, _, _, _, _, _, _, rfl, owr, fr⟩, bl_trans hJ hb6, hb6⟩
   ·intro a gh w5 hag hJ hd
    dsimp only [bareO]
    clear hag
    obtain ⟨Z1, e1, Z2, e2, Z3, e3, T, e0, ho, hf⟩ : ∃ Z1 e1 Z2 e2 Z3 e3 T, a.tmps.getD 33 undef = .tuple #[.agg #[.int .i64 rn, .slice Z1 rcs.length e1, .slice Z2 rpl.length e2, .slice Z3 rds.length e3, .int .i64 rm], .bool rb] ∧ OwTheatre w5 T (.slice Z1 rcs.length e1) (.slice Z2 rpl.length e2) (.slice Z3 rds.length e3) rcs rpl rds ∧ Fresh (w.heap.size + 1 + 1) w5 T := hd 9 (by kernel_rfl) _ rfl
    go_wp2_with fail
    exact ⟨rfl, _, rfl, ⟨_, _, _, _, _, _, _, rfl, ho, hf⟩, hJ, Below.refl _ _⟩
   ·intro a gh w5 hag hJ hd
    dsimp only [bareO]
    clear hag
    obtain ⟨Z1, e1, Z2, e2, Z3, e3, T, e0, ho, hf⟩ : ∃ Z1 e1 Z2 e2 Z3 e3 T, a.tmps.getD 33 undef = .tuple #[.agg #[.int .i64 rn, .slice Z1 rcs.length e1, .slice Z2 rpl.length e2, .slice Z3 rds.length e3, .int .i64 rm], .bool rb] ∧ OwTheatre w5 T (.slice Z1 rcs.length e1) (.slice Z2 rpl.length e2) (.slice Z3 rds.length e3) rcs rpl rds ∧ Fresh (w.heap.size + 1 + 1) w5 T := hd 9 (by kernel_rfl) _ rfl
    go_wp2_with fail
    exact ⟨rfl, _, rfl, rfl, hJ, Below.refl _ _⟩
  ·intro a gh w5 hag hJ hd
   obtain ⟨x0, x1, x2, x3, x4, x5, x6, x7, x8, x9, x10, x11, x12, x13, x14, x15, x16, x17, x18, x19, x20, x21, x22, x23, x24, x25, x26, x27, x28, x29, x30, x31, x32, x33, x34, x35, rfl⟩ := act36gs0 hag.size hag.defers
   have ag2 : x2 = .pointer (some ⟨w.heap.size, 0, none⟩) := hag.kept 2 (by kernel_rfl)
   have ag4 : x4 = .pointer (some ⟨w.heap.size + 1, 0, none⟩) := hag.kept 4 (by kernel_rfl)
   have ag6 : x6 = .pointer (some ⟨go, 0, none⟩) := hag.kept 6 (by kernel_rfl)
   have ag8 : x8 = .bool false := hag.kept 8 (by kernel_rfl)
   clear hag
   subst ag2 ag4 ag6 ag8
   obtain ⟨Z1, e1, Z2, e2, Z3, e3, T, e0, ho, hf⟩ : ∃ Z1 e1 Z2 e2 Z3 e3 T, x34 = .agg #[.int .i64 rn, .slice Z1 rcs.length e1, .slice Z2 rpl.length e2, .slice Z3 rds.length e3, .int .i64 rm] ∧ OwTheatre w5 T (.slice Z1 rcs.length e1) (.slice Z2 rpl.length e2) (.slice Z3 rds.length e3) rcs rpl rds ∧ Fresh (w.heap.size + 1 + 1) w5 T := hd 10 (by kernel_rfl) _ rfl
   have e35 : x35 = .bool rb := hd 11 (by kernel_rfl) _ rfl
   subst e0 e35
   clear hd
   change wpList _ _ _ [_, _] _ _
   have hzq : W5.heap.size ≤ w5.heap.size := by have := hJ.size; (try simp at this); omega
   replace Lc := Lc.below hJ
   replace Lr := Lr.below hJ
   replace Lo := Lo.below hJ
   replace OQ := Lib.hid (OQ.out.below hJ)
   replace FQ := Lib.hid (fresh_mono (w' := w5) FQ.out (Nat.le_refl _) hzq)
   replace hb : Below w.heap.size w w5 := hb.trans (hJ.mono hb.size)
   clear hJ
   have FR := Lib.hid hf
   have OR := Lib.hid ho
   clear ho hf Hres
   have r0 := (Lr 0 _ rfl).1
   have rf0 := (Lr 0 _ rfl).2
   have r1 := (Lr 1 _ rfl).1
   have rf1 := (Lr 1 _ rfl).2
   have r2 := (Lr 2 _ rfl).1
   have rf2 := (Lr 2 _ rfl).2
   have r3 := (Lr 3 _ rfl).1
   have rf3 := (Lr 3 _ rfl).2
   have r4 := (Lr 4 _ rfl).1
   have rf4 := (Lr 4 _ rfl).2
   go_wp2_with fail
   refine bodyPost_ret (v := .tuple #[.agg #[.int .i64 rn, .slice Z1 rcs.length e1, .slice Z2 rpl.length e2, .slice Z3 rds.length e3, .int .i64 rm], .bool rb]) (by simp [results, Tryz.results34, go_sem, *]) rfl ⟨_, _, _, T, rfl, ?_, ?_, ?_⟩
   ·exact OR.out.chg (T := [w.heap.size + 1]) (by repeat' (with_reducible first | exact Chg.refl _ _ | refine qC ?_)) (fun x hx hx' => by have := (FR.out.2 x hx).1; simp at hx'; omega)
   ·exact fresh_mono FR.out (by omega) (by simp)
   ·exact Below.chg hb (S := [w.heap.size + 1]) (by repeat' (with_reducible first | exact Chg.refl _ _ | refine qC ?_)) hb.size (fun x hx => by simp at hx; omega)
 ·skip
  refine region_guardedL (n := 36) 12 (by kernel_rfl) rfl (by kernel_rfl) [3] (by kernel_rfl) (fun j => if j = 3 then true else false) (fun w' => Below W5.heap.size W5 w') (fun _ => 0) (pgs1 w n m A1 A2 A3 B1 B2 C1 cs pl ds ds' n1 n2 n3 k1 k2 l1 (w.heap.size) (go) wy wb rn rm rcs rpl rds rb (w.heap.size + 1 + 1)) ⟨fun _ _ _ h => h, trivial⟩ (Below.refl _ _).drew ?_ ?_ ?_
  ·intro i v gh gh' w1 w2 hp hJ hb' hg
   match i, hp with
   | 0, hp => exact hp
   | 1, hp => exact hp
   | 2, hp => exact hp
   | 3, hp => exact hp
   | 4, hp => exact hp
   | 5, hp => exact hp
   | 6, hp => exact hp
   | 7, hp => exact hp
   | 8, hp => exact hp
   | 9, ⟨Z1, e1, Z2, e2, Z3, e3, T, hv, ho, hf⟩ => exact ⟨Z1, e1, Z2, e2, Z3, e3, T, hv, ho.below hb', fresh_mono hf (Nat.le_refl _) hb'.size⟩
   | 10, ⟨Z1, e1, Z2, e2, Z3, e3, T, hv, ho, hf⟩ => exact ⟨Z1, e1, Z2, e2, Z3, e3, T, hv, ho.below hb', fresh_mono hf (Nat.le_refl _) hb'.size⟩
   | 11, hp => exact hp
   | _ + 12, _ => trivial
  ·refine ⟨?_, ?_, ?_, ?_, ?_, ?_, ?_, ?_, ?_, ?_, ?_, ?_, trivial⟩
   ·intro a gh w5 hag hJ hd
    dsimp only [bareO]
    have ag2 : a.tmps.getD 2 undef = .pointer (some ⟨w.heap.size, 0, none⟩) := hag.kept 2 (by kernel_rfl)
    clear hag
    have c0 := ((Lc.below hJ) 0 _ rfl).1
    have c1 := ((Lc.below hJ) 1 _ rfl).1
    have c2 := ((Lc.below hJ) 2 _ rfl).1
    have c3 := ((Lc.below hJ) 3 _ rfl).1
    have c4 := ((Lc.below hJ) 4 _ rfl).1
    go_wp2_with fail
    exact ⟨rfl, _, rfl, rfl, hJ, Below.refl _ _⟩
   ·intro a gh w5 hag hJ hd
    dsimp only [bareO]
    have ag6 : a.tmps.getD 6 undef = .pointer (some ⟨go, 0, none⟩) := hag.kept 6 (by kernel_rfl)
    clear hag
    have o0 := ((Lo.below hJ) 0 _ rfl).1
    have o1 := ((Lo.below hJ) 1 _ rfl).1
    have o2 := ((Lo.below hJ) 2 _ rfl).1
    have o3 := ((Lo.below hJ) 3 _ rfl).1
    have o4 := ((Lo.below hJ) 4 _ rfl).1
    go_wp2_with fail
    exact ⟨rfl, _, rfl, rfl, hJ, Below.refl _ _⟩
   ·intro a gh w5 hag hJ hd
    dsimp only [bareO]
    have ag8 : a.tmps.getD 8 undef = .bool true := hag.kept 8 (by kernel_rfl)
    clear hag
    go_wp2_with fail
    exact ⟨rfl, _, rfl, rfl, hJ, Below.refl _ _⟩
   ·intro a gh w5 hag hJ hd
    dsimp only [bareO]
    clear hag
    have e0 : a.tmps.getD 26 undef = .bool true := hd 2 (by kernel_rfl) _ rfl
    go_wp2_with fail
    exact ⟨rfl, _, rfl, rfl, hJ, Below.refl _ _⟩
   ·intro a gh w5 hag hJ hd
    dsimp only [bareO]
    have ag2 : a.tmps.getD 2 undef = .pointer (some ⟨w.heap.size, 0, none⟩) := hag.kept 2 (by kernel_rfl)
    clear hag
    go_wp2_with fail
    exact ⟨rfl, _, rfl, rfl, hJ, Below.refl _ _⟩
   ·intro a gh w5 hag hJ hd
    dsimp only [bareO]
    clear hag
    have e0 : a.tmps.getD 28 undef = .pointer (some ⟨w.heap.size, 0, none⟩) := hd 4 (by kernel_rfl) _ rfl
    have c0 := ((Lc.below hJ) 0 _ rfl).1
    have c1 := ((Lc.below hJ) 1 _ rfl).1
    have c2 := ((Lc.below hJ) 2 _ rfl).1
    have c3 := ((Lc.below hJ) 3 _ rfl).1
    have c4 := ((Lc.below hJ) 4 _ rfl).1
    go_wp2_with fail
    exact ⟨rfl, _, rfl, rfl, hJ, Below.refl _ _⟩
   ·intro a gh w5 hag hJ hd
    dsimp only [bareO]
    clear hag
    have e0 : a.tmps.getD 29 undef = .agg #[.int .i64 n, .slice A1 cs.length n1, .slice A2 pl.length n2] := hd 5 (by kernel_rfl) _ rfl
    go_wp2_with fail
    refine (hWN.out w5 ((HRD.out.below hJ).1)).mono ?_
    rintro e w6 ⟨rfl, hb6⟩
    go_wp2_with fail
    exact ⟨rfl, _, rfl, rfl, bl_trans hJ hb6, hb6⟩
   ·intro a gh w5 hag hJ hd
    dsimp only [bareO]
    clear hag
    have e0 : a.tmps.getD 30 undef = .int .i64 wy := hd 6 (by kernel_rfl) _ rfl
    go_wp2_with fail
    exact ⟨rfl, _, rfl, by first | exact congrArg Value.bool HWB.out | (rw [HWB.out]), hJ, Below.refl _ _⟩
   ·intro a gh w5 hag hJ hd
    dsimp only [bareO]
    clear hag
    have e0 : a.tmps.getD 27 undef = .bool true := hd 3 (by kernel_rfl) _ rfl
    have e1 : a.tmps.getD 31 undef = .bool wb := hd 7 (by kernel_rfl) _ rfl
    go_wp2_with fail
    exact ⟨rfl, _, rfl, rfl, hJ, Below.refl _ _⟩
   ·intro a gh w5 hag hJ hd
    dsimp only [bareO]
    clear hag
    have e0 : a.tmps.getD 24 undef = .agg #[.int .i64 n, .slice A1 cs.length n1, .slice A2 pl.length n2, .slice A3 ds.length n3, .int .i64 m] := hd 0 (by kernel_rfl) _ rfl
    have e1 : a.tmps.getD 25 undef = .agg #[.int .i64 n, .slice B1 cs.length k1, .slice B2 pl.length k2, .slice C1 ds'.length l1, .int .i64 (wrap64 (m + 30))] := hd 1 (by kernel_rfl) _ rfl
    have e2 : a.tmps.getD 32 undef = .bool wb := hd 8 (by kernel_rfl) _ rfl
    go_wp2_with fail
    refine (becomes_eq (B := w.heap.size + 1 + 1) (S := SQ) Hres.out (HRD.out.below hJ) hsz (OQ.out.below hJ) (fresh_mono FQ.out (Nat.le_refl _) hJ.size) (by have := hb.size; have := hJ.size; omega)).mono ?_
    rintro e w6 ⟨z1, z2, z3, T, rfl, owr, fr, hb6⟩
    obtain ⟨⟨Z1, e1, rfl⟩, ⟨Z2, e2, rfl⟩, ⟨Z3, e3, rfl⟩⟩ := owr.rd.forms
    go_wp2_with fail
    exact ⟨rfl, _, rfl, ⟨_, _, _, _, _, _, _, rfl, owr, fr⟩, bl_trans hJ hb6, hb6⟩
   ·intro a gh w5 hag hJ hd
    dsimp only [bareO]
    clear hag
    obtain ⟨Z1, e1, Z2, e2, Z3, e3, T, e0, ho, hf⟩ : ∃ Z1 e1 Z2 e2 Z3 e3 T, a.tmps.getD 33 undef = .tuple #[.agg #[.int .i64 rn, .slice Z1 rcs.length e1, .slice Z2 rpl.length e2, .slice Z3 rds.length e3, .int .i64 rm], .bool rb] ∧ OwTheatre w5 T (.slice Z1 rcs.length e1) (.slice Z2 rpl.length e2) (.slice Z3 rds.length e3) rcs rpl rds ∧ Fresh (w.heap.size + 1 + 1) w5 T := hd 9 (by kernel_rfl) _ rfl
    go_wp2_with fail
    exact ⟨rfl, _, rfl, ⟨_, _, _, _, _, _, _, rfl, ho, hf⟩, hJ, Below.refl _ _⟩
   ·intro a gh w5 hag hJ hd
    dsimp only [bareO]
    clear hag
    obtain ⟨Z1, e1, Z2, e2, Z3, e3, T, e0, ho, hf⟩ : ∃ Z1 e1 Z2 e2 Z3 e3 T, a.tmps.getD 33 undef = .tuple #[.agg #[.int .i64 rn, .slice Z1 rcs.length e1, .slice Z2 rpl.length e2, .slice Z3 rds.length e3, .int .i64 rm], .bool rb] ∧ OwTheatre w5 T (.slice Z1 rcs.length e1) (.slice Z2 rpl.length e2) (.slice Z3 rds.length e3) rcs rpl rds ∧ Fresh (w.heap.size + 1 + 1) w5 T := hd 9 (by kernel_rfl) _ rfl
    go_wp2_with fail
    exact ⟨rfl, _, rfl, rfl, hJ, Below.refl _ _⟩
  ·intro a gh w5 hag hJ hd
   obtain ⟨x0, x1, x2, x3, x4, x5, x6, x7, x8, x9, x10, x11, x12, x13, x14, x15, x16, x17, x18, x19, x20, x21, x22, x23, x24, x25, x26, x27, x28, x29, x30, x31, x32, x33, x34, x35, rfl⟩ := act36gs1 hag.size hag.defers
   have ag2 : x2 = .pointer (some ⟨w.heap.size, 0, none⟩) := hag.kept 2 (by kernel_rfl)
   have ag4 : x4 = .pointer (some ⟨w.heap.size + 1, 0, none⟩) := hag.kept 4 (by kernel_rfl)
   have ag6 : x6 = .pointer (some ⟨go, 0, none⟩) := hag.kept 6 (by kernel_rfl)
   have ag8 : x8 = .bool true := hag.kept 8 (by kernel_rfl)
   clear hag
   subst ag2 ag4 ag6 ag8
   obtain ⟨Z1, e1, Z2, e2, Z3, e3, T, e0, ho, hf⟩ : ∃ Z1 e1 Z2 e2 Z3 e3 T, x34 = .agg #[.int .i64 rn, .slice Z1 rcs.length e1, .slice Z2 rpl.length e2, .slice Z3 rds.length e3, .int .i64 rm] ∧ OwTheatre w5 T (.slice Z1 rcs.length e1) (.slice Z2 rpl.length e2) (.slice Z3 rds.length e3) rcs rpl rds ∧ Fresh (w.heap.size + 1 + 1) w5 T := hd 10 (by kernel_rfl) _ rfl
   have e35 : x35 = .bool rb := hd 11 (by kernel_rfl) _ rfl
   subst e0 e35
   clear hd
   change wpList _ _ _ [_, _] _ _
   have hzq : W5.heap.size ≤ w5.heap.size := by have := hJ.size; (try simp at this); omega
   replace Lc := Lc.below hJ
   replace Lr := Lr.below hJ
   replace Lo := Lo.below hJ
   replace OQ := Lib.hid (OQ.out.below hJ)
   replace FQ := Lib.hid (fresh_mono (w' := w5) FQ.out (Nat.le_refl _) hzq)
   replace hb : Below w.heap.size w w5 := hb.trans (hJ.mono hb.size)
   clear hJ
   have FR := Lib.hid hf
   have OR := Lib.hid ho
   clear ho hf Hres
   have r0 := (Lr 0 _ rfl).1
   have rf0 := (Lr 0 _ rfl).2
   have r1 := (Lr 1 _ rfl).1
   have rf1 := (Lr 1 _ rfl).2
   have r2 := (Lr 2 _ rfl).1
   have rf2 := (Lr 2 _ rfl).2
   have r3 := (Lr 3 _ rfl).1
   have rf3 := (Lr 3 _ rfl).2
   have r4 := (Lr 4 _ rfl).1
   have rf4 := (Lr 4 _ rfl).2
   go_wp2_with fail
   refine bodyPost_ret (v := .tuple #[.agg #[.int .i64 rn, .slice Z1 rcs.length e1, .slice Z2 rpl.length e2, .slice Z3 rds.length e3, .int .i64 rm], .bool rb]) (by simp [results, Tryz.results34, go_sem, *]) rfl ⟨_, _, _, T, rfl, ?_, ?_, ?_⟩
   ·exact OR.out.chg (T := [w.heap.size + 1]) (by repeat' (with_reducible first | exact Chg.refl _ _ | refine qC ?_)) (fun x hx hx' => by have := (FR.out.2 x hx).1; simp at hx'; omega)
   ·exact fresh_mono FR.out (by omega) (by simp)
   ·exact Below.chg hb (S := [w.heap.size + 1]) (by repeat' (with_reducible first | exact Chg.refl _ _ | refine qC ?_)) hb.size (fun x hx => by simp at hx; omega)
end Go.Proofs.YtlhdeojkpmpecaaGreat
