/- Contracts: orders: SwapAt, OrderAfter, CountInversions of the reference. -/
import Derived.BigQuiet
import Derived.Deep.QuietTactic
import Derived.IntWalk
import Derived.Test.YteidpejjjphecaaGreatDoorBdK3x9
import Derived.Test.YteidpejjjphecaaGreatDoorBdC1x9
import Derived.Test.YteidpejjjphecaaGreatDoorBdM7x3
namespace Go.Proofs.YteidpejjjphecaaGreatDoor
open Go.RowKit
def ordR (n : Int) (cs : List RCross) : List Int := if crossesB n cs = true then orderF n.toNat cs else []
theorem ordR_t {n : Nat} {cs : List RCross} (h : crossesB n cs = true) : ordR n cs = orderF n cs := by unfold ordR; rw [if_pos h]; rfl
theorem ordR_f {n : Int} {cs : List RCross} (h : crossesB n cs = false) : ordR n cs = [] := by unfold ordR; rw [if_neg (by rw [h]; simp)]
set_option maxHeartbeats 2000000 in
set_option maxRecDepth 100000 in
theorem specSwap_any (v : Value) (l : List Int) (k : Nat) (w : World) (h : RdL cInt 1 w v l) (ho : orderB l = true) (hk : k + 1 < l.length) :
  Calls Tryz.prog 126 #[v, .int .i64 k] w fun e w' => ∃ v', e = .returned (.tuple #[v', .bool true]) ∧ w'.ownsRow w.heap.size 3 1 v' l.length ((swapL l k).flatMap cInt) ∧ Below w.heap.size w w' := by
 have h0 := h
 obtain ⟨A, c, rfl, h1, h2⟩ := h.form
 obtain ⟨iI, hiI, hzI0, hzI1, hzI2⟩ := info_parts infoInt
 have hl7 := ((orderB_iff l).1 ho).1
 have hown0 := World.ownsRow_made (size := 1) (e := 3) w #[] 0 (Nat.le_refl _) (by simp [maxLen]) rfl
 go_enter Tryz.func126, Tryz.ntmps126
 go_wp2_with (at_builtin; refine wpList_append_empty _ rfl (.tmp 7) (.tmp 8) _ rfl w.heap.size 3 iI _ 1 8 Tryz.underlying28 hiI hzI0 hzI1 hzI2 rfl (by omega) w.heap.size rfl hown0 _ l.length (l.flatMap cInt) rfl (RdS.below h0 ((Below.refl _ _).alloc (Nat.le_refl _) _)) (oneCell_flat cInt_one l) (by simp [maxLen] <;> omega) (by omega) (by simp) ?_; intro v1 w1 own1 b1 at1)
 have hb1 : Below w.heap.size w w1 := bl_alloc b1
 have h3 := h0.below hb1
 have hO := specOrderOk_any _ l _ h3
 rw [ho] at hO
 go_wp2_with fail
 refine hO.mono ?_
 rintro e w2 ⟨rfl, hb2⟩
 have own2 := own_below own1 hb2
 have h4 := h3.below hb2
 have hbb := bl_trans hb1 hb2
 have Hswap := Lib.hid (swapL_eq hk)
 clear h3 own1 hb1 b1 hb2 hO hown0 at1 h0
 go_wp2_with fail
 refine two (l01In_any _ _ _ _) (fun hin => ?_) (fun hin => ?_)
 ·obtain ⟨g1, off, rfl, hg1, hc1⟩ := h.cell (k := k + 1) cInt_len (by omega) hk
  obtain ⟨g2, off2, hA2, hg2, hc2⟩ := h.cell (k := k) cInt_len (by omega) (by omega)
  injection hA2 with hA2
  injection hA2 with e1 e2
  subst e1 e2
  have k1 := carry hbb (hc1 0 _ rfl)
  have k2 := carry hbb (hc2 0 _ rfl)
  simp only [Nat.add_zero, Nat.mul_one] at k1 k2
  clear hc1 hc2
  obtain ⟨go, co, rfl⟩ := own_form own2 (by omega)
  have hgo := own2.lt go rfl
  have hz2 := hbb.size
  have q1 := row_cell own2 (k := k) (by omega)
  have q2 := row_cell own2 (k := k + 1) hk
  have fz1 := own2.frozenAt k
  have fz2 := own2.frozenAt (k + 1)
  have hne : ¬ go = g1 := by omega
  have hne2 : ¬ g1 = go := by omega
  have e1 : ((k : Int) + 1).toNat = k + 1 := by omega
  have st1 := row_stored own2 k l[k + 1]
  have st2 := row_stored st1 (k + 1) l[k]
  have hb3 : Below w.heap.size w ((w2.setCell ⟨go, k, none⟩ (.int .i64 l[k + 1])).setCell ⟨go, k + 1, none⟩ (.int .i64 l[k])) := (hbb.setCell hgo.1 _).setCell hgo.1 _
  rw [← Hswap.out] at st2
  have ST := Lib.hid st2
  have HB3 := Lib.hid hb3
  clear st1 st2 own2 hb3 hin
  generalize l[k + 1] = y at *
  generalize l[k] = x at *
  go_wp2_with fail
  go_ret2
  exact ⟨_, rfl, ST.out, HB3.out⟩
 ·exact absurd hin.out (by rw [show inB (k : Int) 0 ((l.length : Int) - 2) = true from inB_iff.2 (by omega)]; simp)
set_option maxHeartbeats 2000000 in
set_option maxRecDepth 100000 in
theorem specOrderAfter_any (n : Int) (v : Value) (cs : List RCross) (w : World) (h : RdL cCross 2 w v cs) :
  Calls Tryz.prog 114 #[.int .i64 n, v] w fun e w' => ∃ v', e = .returned v' ∧ w'.ownsRow w.heap.size 3 1 v' (ordR n cs).length ((ordR n cs).flatMap cInt) ∧ Below w.heap.size w w' := by
 have h0 := h
 obtain ⟨A, c, rfl, h1, h2⟩ := h.form
 go_enter Tryz.func114, Tryz.ntmps114
 go_wp2_with fail
 refine twoB (specCrossesOk_any n _ cs _ h0) (fun w1 hq hb1 => ?_) (fun w1 hq hb1 => ?_)
 ·obtain ⟨hn, hlen, hcs⟩ := crosses_len hq.out
  obtain ⟨m, rfl⟩ := Int.eq_ofNat_of_zero_le (show 0 ≤ n by omega)
  have hm : 1 ≤ m ∧ m ≤ 7 := by omega
  go_wp2_with fail
  refine (l08Start_any m w1 (by omega)).mono ?_
  rintro e w2 ⟨v2, rfl, own2, hb2⟩
  obtain ⟨A2, c2, rfl, _, _⟩ := (RdS.of_own own2).form
  have hbb := bl_trans hb1 hb2
  have h3 := h0.below hbb
  have own2' : w2.ownsRow w.heap.size 3 1 (.slice A2 (upN m).length c2) (orderF m (cs.take 0)).length ((orderF m (cs.take 0)).flatMap cInt) := own_mono own2 hb1.size
  have hcs' := Lib.hid hcs
  have hq' := Lib.hid hq
  clear own2 hb1 hb2 hcs hq
  go_wp2_with fail
  go_loopw [5, 6] (fun q i wr => ∃ k : Nat, k ≤ cs.length ∧ i = .int .i64 k ∧ wr.ownsRow w.heap.size 3 1 q (orderF m (cs.take k)).length ((orderF m (cs.take k)).flatMap cInt) ∧ Below w.heap.size w wr) (fun _ i _ => cs.length - (intOf i).toNat)
  case atStart => exact ⟨0, Nat.zero_le _, rfl, own2', hbb⟩
  case round =>
   obtain ⟨k, hk, rfl, hown, hb⟩ := hrel
   have hrq := RdS.of_own hown
   obtain ⟨Aq, cq, rfl, _, _⟩ := hrq.form
   have hr := h0.below hb
   by_cases hlt : k < cs.length
   ·obtain ⟨g, off, rfl, hg, hc⟩ := hr.cell cCross_len (by omega) hlt
    have k0 := hc 0 _ rfl
    have k1 := hc 1 _ rfl
    simp only [Nat.add_zero] at k0 k1
    clear hc
    have hcb := hcs'.out _ (List.getElem_mem hlt)
    have hsn := orderF_snoc m hlt
    have hord : IsOrd m (orderF m (cs.take k)) := IsOrd.order (fun c hc => hcs'.out c (List.mem_of_mem_take hc))
    have hol := hord.len
    have Hok := Lib.hid (hord.okB hm)
    obtain ⟨a, ha⟩ := Int.eq_ofNat_of_zero_le hcb.1
    rw [ha] at k0 hcb
    rw [ha, show ((a : Nat) : Int).toNat = a from rfl] at hsn
    have Hsn := Lib.hid hsn
    clear hsn ha
    generalize cs[k] = cc at *
    generalize orderF m (cs.take k) = o at *
    have Hlen2 := Lib.hid (swapL_len o a)
    have ha1 : a + 1 < o.length := by omega
    have Hord := Lib.hid hord
    clear hord hol
    go_wp2_with fail
    refine (specSwap_any _ o a wr hrq Hok.out ha1).mono ?_
    rintro e w3 ⟨v3, rfl, own3, hb3⟩
    obtain ⟨A3, c3, rfl, _, _⟩ := (RdS.of_own own3).form
    go_wp2_with fail
    go_roundw
    case rel => exact ⟨k + 1, by omega, by go_num, by rw [Hsn.out, Hlen2.out]; exact own_mono own3 hb.size, bl_trans hb hb3⟩
    case measure => simp [intOf]; omega
   ·obtain rfl : k = cs.length := by omega
    rw [List.take_length] at hown hrq ⊢
    go_wp2_with fail
    go_ret
    rw [ordR_t hq'.out.out]
    exact ⟨_, rfl, hown, hb⟩
 ·go_wp2_with fail
  go_ret
  rw [ordR_f hq.out]
  exact ⟨_, rfl, own_mono (World.ownsRow_made (size := 1) (e := 3) w1 #[] 0 (Nat.le_refl _) (by simp [maxLen]) rfl) hb1.size, hb1.alloc hb1.size _⟩
set_option maxHeartbeats 2000000 in
set_option maxRecDepth 100000 in
theorem specCountInv_any (v : Value) (l : List Int) (w : World) (h : RdL cInt 1 w v l) (ho : orderB l = true) :
  Calls Tryz.prog 115 #[v] w fun e w' => e = .returned (.int .i64 (inv l : Nat)) ∧ Below w.heap.size w w' := by
 have h0 := h
 obtain ⟨A, c, rfl, h1, h2⟩ := h.form
 have hl7 := ((orderB_iff l).1 ho).1
 have hO := specOrderOk_any _ l _ h0
 rw [ho] at hO
 go_enter Tryz.func115, Tryz.ntmps115
 go_wp2_with fail
 refine hO.mono ?_
 rintro e w1 ⟨rfl, hb1⟩
 have h3 := h0.below hb1
 go_wp2_with fail
 go_loopw [3, 4, 5] (fun s i _ wr => ∃ (k d : Nat), k ≤ l.length ∧ i = .int .i64 k ∧ s = .int .i64 (inv (l.take k) : Nat) ∧ wr = w1.drewN d) (fun _ i _ _ => l.length - (intOf i).toNat)
 case atStart => exact ⟨0, 0, Nat.zero_le _, rfl, rfl, rfl⟩
 case round =>
  obtain ⟨k, d, hk, rfl, rfl, rfl⟩ := hrel
  by_cases hlt : k < l.length
  ·have Hin := Lib.hid (inv_take hlt)
   have hib := inv_le (l.take k)
   rw [List.length_take, Nat.min_eq_left hk] at hib
   have hkk : k * k ≤ 7 * 7 := Nat.mul_le_mul (by omega) (by omega)
   obtain ⟨I, hI⟩ : ∃ I, inv (l.take k) = I := ⟨_, rfl⟩
   rw [hI] at hib ⊢
   have HI := Lib.hid hI
   have hIb : I ≤ 49 := by omega
   clear hI hib hkk
   go_wp2_with fail
   go_loopw [3, 5] (fun s j wr => ∃ (p d2 : Nat), p ≤ k ∧ j = .int .i64 p ∧ s = .int .i64 ((I + ((l.take k).take p).countP (fun y => decide (l[k] < y)) : Nat) : Int) ∧ wr = w1.drewN d2) (fun _ j _ => k - (intOf j).toNat)
   case atStart => exact ⟨0, d, Nat.zero_le _, rfl, rfl, rfl⟩
   case round =>
    obtain ⟨p, d2, hp, rfl, rfl, rfl⟩ := hrel
    have hcl : ((l.take k).take p).countP (fun y => decide (l[k] < y)) ≤ 7 := Nat.le_trans List.countP_le_length (by simp; omega)
    by_cases hltp : p < k
    ·obtain ⟨g1, off1, rfl, hg1, hc1⟩ := h3.cell (k := p) cInt_len (by omega) (by omega)
     obtain ⟨g2, off2, hA2, hg2, hc2⟩ := h3.cell (k := k) cInt_len (by omega) hlt
     injection hA2 with hA2
     injection hA2 with e1 e2
     subst e1 e2
     have k1 := hc1 0 _ rfl
     have k2 := hc2 0 _ rfl
     simp only [Nat.add_zero, Nat.mul_one] at k1 k2
     clear hc1 hc2
     have hltk : p < (l.take k).length := by simp; omega
     have hpl : p < l.length := by omega
     have hsn := take_snoc_l (l.take k) hltk
     rw [List.getElem_take] at hsn
     have Hsn := Lib.hid hsn
     clear hsn
     have HT := Lib.hid (fun (hx : l[k] < l[p]) => (show ((l.take k).take (p + 1)).countP (fun y => decide (l[k] < y)) = ((l.take k).take p).countP (fun y => decide (l[k] < y)) + 1 by rw [Hsn.out, List.countP_append, List.countP_cons, List.countP_nil, if_pos (decide_eq_true hx)]))
     have HF := Lib.hid (fun (hx : ¬ l[k] < l[p]) => (show ((l.take k).take (p + 1)).countP (fun y => decide (l[k] < y)) = ((l.take k).take p).countP (fun y => decide (l[k] < y)) by rw [Hsn.out, List.countP_append, List.countP_cons, List.countP_nil, if_neg (by simpa using hx)]; rfl))
     clear Hsn
     obtain ⟨q, hqe⟩ : ∃ q, ((l.take k).take p).countP (fun y => decide (l[k] < y)) = q := ⟨_, rfl⟩
     rw [hqe] at HT HF hcl ⊢
     clear hqe
     obtain ⟨q', hqe⟩ : ∃ q', ((l.take k).take (p + 1)).countP (fun y => decide (l[k] < y)) = q' := ⟨_, rfl⟩
     have hqe2 : ∀ z : Nat, z = q' → Value.int .i64 z = .int .i64 (((l.take k).take (p + 1)).countP (fun y => decide (l[k] < y)) : Nat) := fun z hz => by rw [hz, hqe]
     rw [hqe] at HT HF
     have HQ := Lib.hid hqe
     clear hqe hqe2
     by_cases hx : l[k] < l[p]
     ·have hq' := HT.out hx
      subst hq'
      clear HT HF
      generalize l[k] = x at *
      generalize l[p] = y at *
      go_wp2_with fail
      go_quiet (fail)
      rename_i nq
      go_wp2_with fail
      go_roundw
      case rel => exact ⟨p + 1, d2 + nq, by omega, by go_num, int_eq (by rw [HQ.out]; omega), by simp⟩
      case measure => simp [intOf]; omega
     ·have hq' := HF.out hx
      subst hq'
      clear HT HF
      generalize l[k] = x at *
      generalize l[p] = y at *
      go_wp2_with fail
      go_quiet (fail)
      rename_i nq
      go_wp2_with fail
      go_roundw
      case rel => exact ⟨p + 1, d2 + nq, by omega, by go_num, int_eq (by rw [HQ.out]; omega), by simp⟩
      case measure => simp [intOf]; omega
    ·obtain rfl : p = k := by omega
     have he : (l.take p).take p = l.take p := by rw [List.take_take, Nat.min_self]
     rw [he]
     rw [HI.out] at Hin
     clear he hcl
     go_wp2_with fail
     go_roundw
     case rel => exact ⟨p + 1, d2, by omega, by go_num, int_eq (by rw [Hin.out]), rfl⟩
     case measure => simp [intOf]; omega
  ·obtain rfl : k = l.length := by omega
   rw [List.take_length]
   go_wp2_with fail
   go_ret
   exact ⟨rfl, below_drewN hb1 _⟩
end Go.Proofs.YteidpejjjphecaaGreatDoor
