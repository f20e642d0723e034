/- Contracts: the exchanges that sort, the way home, of the reference. -/
import Derived.Test.YtjbhlbcjljdjmaaY2
import Derived.Test.YtjbhlbcjljdjmaaM5
import Derived.Deep.DeepCutAuto
namespace Go.Proofs.Ytjbhlbcjljdjmaa
open Go.RowKit
def slLen : Value → Nat
  | .slice _ n _ => n
  | _ => 0
def boolN : Value → Nat
  | .bool b => if b = true then 1 else 0
  | _ => 0
/-- the blocks of two rows lie apart -/
def Apart (v u : Value) : Prop := ∀ b ∈ v.ownBlock.toList, b ∉ u.ownBlock.toList
/-- how far the exchanges are: d done, o the order now -/
structure SortSt (m : Nat) (l d o : List Int) : Prop where
  ord : IsOrd m o
  eq : swapsF l = d ++ swapsF o
theorem SortSt.len {m : Nat} {l d o : List Int} (h : SortSt m l d o) : d.length + inv o = inv l := by
  have := congrArg List.length h.eq
  rw [swapsF_len, List.length_append, swapsF_len] at this
  exact this.symm
theorem SortSt.step {m : Nat} {l d o : List Int} (h : SortSt m l d o) {k : Nat} (hk : FirstDesc o k) : SortSt m l (d ++ [(k : Int)]) (swapL o k) := by
  refine ⟨h.ord.swap (by have := hk.lt; rwa [h.ord.len] at this), ?_⟩
  rw [h.eq, swapsF_step hk, List.append_assoc]; rfl
theorem inv_49 {m : Nat} {l : List Int} (h : IsOrd m l) (hm : m ≤ 7) : inv l ≤ 49 := by
  have h1 := inv_le l
  rw [h.len] at h1
  have : m * m ≤ 7 * 7 := Nat.mul_le_mul hm hm
  omega
theorem SortSt.end_ {m : Nat} {l d o : List Int} (h : SortSt m l d o) (h0 : inv o = 0) : swapsF l = d := by rw [h.eq, swapsF_zero h0, List.append_nil]
def UpTo (o : List Int) (k : Nat) : Prop := ∀ j (_ : j < k) (h : j + 1 < o.length), o[j] < o[j + 1]
theorem UpTo.zero (o : List Int) : UpTo o 0 := fun j h => absurd h (by omega)
theorem UpTo.succ {o : List Int} {k : Nat} (h : UpTo o k) (hk : k + 1 < o.length) (hx : o[k] < o[k + 1]) : UpTo o (k + 1) := fun j hj h1 => by
  rcases Nat.lt_succ_iff_lt_or_eq.1 hj with h2 | rfl
  · exact h j h2 h1
  · exact hx
theorem UpTo.all {o : List Int} {k : Nat} (h : UpTo o k) (hk : o.length ≤ k + 1) : inv o = 0 := no_desc o (fun j hj => h j (by omega) hj)
theorem UpTo.first {m : Nat} {o : List Int} {k : Nat} (h : UpTo o k) (ho : IsOrd m o) (hk : k + 1 < o.length) (hx : ¬ o[k] < o[k + 1]) : FirstDesc o k :=
  ⟨hk, fun j hj => h j hj (by omega), by have := ho.ne (i := k) (j := k + 1) (by omega) hk (by omega); omega⟩
theorem own_lt {w : World} {B : Nat} {e : TypeId} {size n : Nat} {v : Value} {xs : List Value} (h : w.ownsRow B e size v n xs) : ∀ b ∈ v.ownBlock.toList, B ≤ b ∧ b < w.heap.size := fun b hb => (fresh_of h).2 b hb
/-- a row that has come up later lies apart from one that stood before -/
theorem apart_new {w w' : World} {B B' n n' : Nat} {e e' : TypeId} {size size' : Nat} {v u : Value} {xs xs' : List Value} (h : w'.ownsRow B e size v n xs) (hu : w.ownsRow B' e' size' u n' xs') (hB : w.heap.size ≤ B) : Apart v u := fun b hb hb' => by
  have h1 := (own_lt h b hb).1
  have h2 := (own_lt hu b hb').2
  omega
/-- what a row is apart from, may grow -/
theorem apart_grow {w : World} {B n : Nat} {e : TypeId} {size : Nat} {v u u' : Value} {xs : List Value} (h : w.ownsRow B e size v n xs) (hap : Apart v u) {N : Nat} (hN : w.heap.size ≤ N) (hat : u'.ownBlock = u.ownBlock ∨ u'.ownBlock = some N) : Apart v u' := fun b hb hb' => by
  rcases hat with e | e
  · rw [e] at hb'; exact hap b hb hb'
  · rw [e] at hb'
    have h1 := (own_lt h b hb).2
    simp at hb'
    omega
set_option maxHeartbeats 4000000 in
set_option maxRecDepth 100000 in
theorem specSorting_any (m : Nat) (v : Value) (l : List Int) (w : World) (h : RdL cInt 1 w v l) (hord : IsOrd m l) (hm : 1 ≤ m ∧ m ≤ 7) :
    Calls Try.prog 151 #[v] w fun e w' => ∃ v', e = .returned v' ∧ w'.ownsRow w.heap.size 3 1 v' (swapsF l).length ((swapsF l).flatMap cInt) ∧ Below w.heap.size w w' := by
  have h0 := h
  obtain ⟨A, c, rfl, h1, h2⟩ := h.form
  obtain ⟨iI, hiI, hzI0, hzI1, hzI2⟩ := info_parts infoInt
  have hl7 : l.length ≤ 7 := by rw [hord.len]; omega
  have hi49 := inv_49 hord hm.2
  have HO := Lib.hid hord
  have HS0 : Hid (SortSt m l [] l) := ⟨hord, rfl⟩
  clear hord
  have hownA := World.ownsRow_made (size := 1) (e := 3) w #[] 0 (Nat.le_refl _) (by simp [maxLen]) rfl
  have hown1 : ((w.alloc (.cells #[] 3)).alloc (.cells #[] 3)).ownsRow (w.heap.size + 1) 3 1 (.slice (some ⟨w.heap.size + 1, 0, none⟩) 0 0) 0 [] := by
    have := World.ownsRow_made (size := 1) (e := 3) (w.alloc (.cells #[] 3)) #[] 0 (Nat.le_refl _) (by simp [maxLen]) rfl
    simpa using this
  have hownB := hownA.alloc (.cells #[] 3)
  have hal : Below w.heap.size w ((w.alloc (.cells #[] 3)).alloc (.cells #[] 3)) := ((Below.refl _ _).alloc (Nat.le_refl _) _).alloc (by simp) _
  have h3 := h0.below hal
  go_enter Try.func151, Try.ntmps151
  go_wp2_with (at_builtin; refine wpList_append_empty _ rfl (.tmp 7) (.tmp 8) _ rfl (w.heap.size + 1) 3 iI _ 1 8 Try.underlying28 hiI hzI0 hzI1 hzI2 rfl (by omega) (w.heap.size + 1) rfl hown1 _ l.length (l.flatMap cInt) rfl h3 (oneCell_flat cInt_one l) (by simp [maxLen] <;> omega) (by omega) (by simp) ?_; intro v1 w1 own1 b1 at1)
  have hb1 : Below w.heap.size w w1 := Below.trans hal (b1.mono (by simp <;> omega))
  have hz1 := hb1.size
  have hp1 := own_below hownB b1
  have hap1 : Apart v1 (.slice (some ⟨w.heap.size, 0, none⟩) 0 0) := fun b hb hb' => by
    have := (own_lt own1 b hb).1
    simp [Value.ownBlock] at hb'
    omega
  have HAP := Lib.hid hap1
  have own1' := own_mono own1 (Nat.zero_le _)
  clear hownA hown1 hownB hal h3 b1 at1 own1 hap1
  obtain ⟨A1, c1, rfl, _, _⟩ := (RdS.of_own own1').form
  go_wp2_with fail
  go_loopw [3, 4, 5] (fun p q _ wr => ∃ d o : List Int, wr.ownsRow w.heap.size 3 1 p d.length (d.flatMap cInt) ∧ wr.ownsRow 0 3 1 q o.length (o.flatMap cInt) ∧ Hid (Apart q p) ∧ Hid (SortSt m l d o) ∧ Below w.heap.size w wr) (fun p _ _ _ => 49 - slLen p)
  case atStart => exact ⟨[], l, hp1, own1', HAP, HS0, hb1⟩
  case round =>
    obtain ⟨d, o, hp, hq, hap, hst, hb⟩ := hrel
    clear hp1 own1' HAP HS0 hb1 hz1
    have hrq : RdL cInt 1 wr _ o := RdS.of_own hq
    obtain ⟨Ap, cp, rfl, _, _⟩ := (RdS.of_own hp).form
    obtain ⟨Aq, cq, rfl, _, _⟩ := hrq.form
    have hsl := hst.out.len
    have hol : o.length ≤ 7 := by rw [hst.out.ord.len]; omega
    have Hok := Lib.hid (hst.out.ord.okB hm)
    have hz := hb.size
    have hC := specCountInv_any _ o wr hrq Hok.out
    obtain ⟨I, hI⟩ : ∃ I, inv o = I := ⟨_, rfl⟩
    rw [hI] at hC hsl
    have HI := Lib.hid hI
    clear hI
    have hd49 : d.length + I ≤ 49 := by omega
    clear hsl
    go_wp2_with fail
    refine hC.mono ?_
    rintro e w2 ⟨rfl, hb2⟩
    have hz2 := hb2.size
    have hp2 := own_below hp hb2
    have hq2 := own_below hq hb2
    have hrq2 : RdL cInt 1 w2 _ o := RdS.of_own hq2
    have hbb : Below w.heap.size w w2 := bl_trans hb hb2
    clear hp hq hC hb hb2
    by_cases hI0 : I = 0
    · subst hI0
      clear hd49
      go_wp2_with fail
      go_ret
      rw [hst.out.end_ HI.out]
      exact ⟨_, rfl, hp2, hbb⟩
    · have hI1 : 0 < I := by omega
      have hol2 : 2 ≤ o.length := by
        apply Classical.byContradiction
        intro hn
        have := (UpTo.zero o).all (by omega)
        rw [HI.out] at this
        omega
      clear hI0
      have hIi : (0 : Int) < (I : Int) := by omega
      go_wp2_with fail
      go_loopw [5] (fun i wi => ∃ (k d2 : Nat), i = .int .i64 k ∧ k + 1 < o.length ∧ Hid (UpTo o k) ∧ wi = w2.drewN d2) (fun i _ => 7 - (intOf i).toNat)
      case atStart => exact ⟨0, 0, rfl, by omega, UpTo.zero o, rfl⟩
      case round =>
        obtain ⟨k, d2, rfl, hk, hup, rfl⟩ := hrel
        obtain ⟨g1, off1, rfl, hg1, hc1⟩ := hrq2.cell (k := k) cInt_len (by omega) (by omega)
        obtain ⟨g2, off2, hA2, hg2, hc2⟩ := hrq2.cell (k := k + 1) cInt_len (by omega) hk
        injection hA2 with hA2
        injection hA2 with e1 e2
        subst e1 e2
        have k1 := hc1 0 _ rfl
        have k2 := hc2 0 _ rfl
        simp only [Nat.add_zero, Nat.mul_one] at k1 k2
        clear hc1 hc2
        have e1 : ((k : Int) + 1).toNat = k + 1 := by omega
        have HX : Hid (o[k] < o[k + 1] → UpTo o (k + 1)) := fun hx => hup.out.succ hk hx
        have HY : Hid (¬ o[k] < o[k + 1] → FirstDesc o k) := fun hx => hup.out.first hst.out.ord hk hx
        by_cases hx : o[k] < o[k + 1]
        · have hk2 : k + 1 + 1 < o.length := by
            apply Classical.byContradiction
            intro hn
            have := (HX.out hx).all (by omega)
            rw [HI.out] at this
            omega
          have hxu := HX.out hx
          have HXU := Lib.hid hxu
          clear hxu HX HY
          have hx' : decide (o[k] < o[k + 1]) = true := decide_eq_true hx
          generalize o[k + 1] = y at *
          generalize o[k] = x at *
          go_wp2_with fail
          go_quiet (fail)
          rename_i nq
          go_wp2_with fail
          go_roundw
          case rel => exact ⟨k + 1, _, by go_num, hk2, HXU.out, rfl⟩
          case measure => simp [intOf]; omega
        · have hfd := HY.out hx
          have HFD := Lib.hid hfd
          clear hfd HX HY
          have hx' : decide (o[k] < o[k + 1]) = false := decide_eq_false hx
          generalize o[k + 1] = y at *
          generalize o[k] = x at *
          go_wp2_with fail
          go_quiet (fail)
          rename_i nq
          have hq3 := own_below hq2 (below_drewN (Below.refl w2.heap.size w2) nq)
          go_wp2_with fail
          refine (specSwap_any _ o k _ (hrq2.below (below_drewN (Below.refl _ _) _)) Hok.out hk).mono ?_
          rintro e w3 ⟨v3, rfl, own3, hb3⟩
          obtain ⟨A3, c3, rfl, _, _⟩ := (RdS.of_own own3).form
          have hb23 : Below w2.heap.size w2 w3 := bl_trans (below_drewN (Below.refl _ _) _) hb3
          have hz3 := hb23.size
          have hp3 := own_below hp2 hb23
          have own3' : w3.ownsRow w2.heap.size 3 1 (.slice A3 o.length c3) (swapL o k).length ((swapL o k).flatMap cInt) := by rw [swapL_len]; exact own_mono own3 (by simp)
          have hap3 := Lib.hid (apart_new own3' hp2 (Nat.le_refl _))
          have hbb3 : Below w.heap.size w w3 := bl_trans hbb hb23
          have HS3 : Hid (SortSt m l (d ++ [(k : Int)]) (swapL o k)) := hst.out.step HFD.out
          have H3 := Lib.hid own3'
          clear own3 own3' hb3 hb23 hq3 hq2 hrq2 hrq
          go_wp2_with (at_builtin; refine wpList_appendB _ rfl (.tmp 31) (.tmp 33) _ rfl w.heap.size 3 iI _ 1 8 Try.underlying28 hiI hzI0 hzI1 hzI2 rfl (by omega) _ d.length (d.flatMap cInt) rfl (hp3.alloc _) _ 1 [.int .i64 k] rfl (rdS_new w3 #[.int .i64 k] _ 1 1 rfl (by simp [maxLen])) (by simp [Value.oneCell']) (by simp [maxLen]; omega) (by omega) (by simp; omega) ?_; intro v4 w4 own4 gr4 at4)
          obtain ⟨A4, c4, rfl, _, _⟩ := (RdS.of_own own4).form
          have hch := Chg.of_grown gr4
          have hb4 := below_own (hp3.alloc _) gr4 (by simp; omega)
          have q4 := Lib.hid (own_chg (H3.out.alloc _) hch hap3.out)
          have ap4 := Lib.hid (apart_grow (H3.out.alloc _) hap3.out (Nat.le_refl _) at4)
          clear gr4 at4 hch
          go_wp2_with fail
          go_roundw
          case rel => exact ⟨d ++ [(k : Int)], swapL o k, by rw [List.length_append, List.flatMap_append]; exact own4, own_mono q4.out (Nat.zero_le _), ap4.out, HS3.out, (hbb3.alloc (by omega) _).trans hb4⟩
          case measure => simp [slLen]; omega
/-- what leads home, from the first k exchanges -/
def wayL (sw : List Int) : List RCross := sw.map (fun k => (k, true))
theorem wayL_snoc (sw : List Int) {k : Nat} (h : k < sw.length) : wayL (sw.take (k + 1)) = wayL (sw.take k) ++ [(sw[k], true)] := by unfold wayL; rw [take_snoc_l sw h, List.map_append]; rfl
theorem wayL_len (sw : List Int) : (wayL sw).length = sw.length := by simp [wayL]
set_option maxHeartbeats 4000000 in
set_option maxRecDepth 100000 in
theorem specBringHome_any (n : Int) (v : Value) (cs : List RCross) (w : World) (h : RdL cCross 2 w v cs) :
    Calls Try.prog 132 #[.int .i64 n, v] w fun e w' => ∃ v', e = .returned (.tuple #[v', .bool (crossesB n cs)]) ∧ w'.ownsRow w.heap.size 115 2 v' (homeL n cs).length ((homeL n cs).flatMap cCross) ∧ Below w.heap.size w w' := by
  have h0 := h
  obtain ⟨A, c, rfl, h1, h2⟩ := h.form
  obtain ⟨iX, hiX, hzX0, hzX1, hzX2⟩ := info_parts infoCross
  have hownA := World.ownsRow_made (size := 2) (e := 115) w #[] 0 (Nat.le_refl _) (by simp [maxLen]) rfl
  have hal : Below w.heap.size w (w.alloc (.cells #[] 115)) := (Below.refl _ _).alloc (Nat.le_refl _) _
  have h3 := h0.below hal
  go_enter Try.func132, Try.ntmps132
  go_wp2_with fail
  refine twoB (specCrossesOk_any n _ cs _ h3) (fun w1 hq hb1 => ?_) (fun w1 hq hb1 => ?_)
  · obtain ⟨hn, hlen, hcs⟩ := crosses_len hq.out
    obtain ⟨m, rfl⟩ := Int.eq_ofNat_of_zero_le (show 0 ≤ n by omega)
    have hm : 1 ≤ m ∧ m ≤ 7 := by omega
    have hz1 := hb1.size
    simp at hz1
    have hb01 : Below w.heap.size w w1 := bl_trans hal hb1
    have hown1 := own_below hownA hb1
    have hO := specOrderAfter_any (m : Int) _ cs w1 (h0.below hb01)
    rw [ordR_t hq.out] at hO
    have HOrd := Lib.hid (IsOrd.order hcs)
    have HQ := Lib.hid hq.out
    have HH := Lib.hid (homeL_t hq.out)
    have Hm := Lib.hid hm
    clear hal h3 hownA hb1 hq hcs hn
    go_wp2_with fail
    refine hO.mono ?_
    rintro e w2 ⟨v2, rfl, own2, hb2⟩
    have hr2 : RdL cInt 1 w2 v2 (orderF m cs) := RdS.of_own own2
    have hb02 : Below w.heap.size w w2 := bl_trans hb01 hb2
    have hz2 := hb2.size
    have hown2 := own_below hown1 hb2
    clear own2 hb2 hO hown1 hb01
    obtain ⟨A2, c2, rfl, _, _⟩ := hr2.form
    have hi49 := inv_49 HOrd.out Hm.out.2
    rw [← swapsF_len] at hi49
    go_wp2_with fail
    refine (specSorting_any m _ (orderF m cs) _ hr2 HOrd.out Hm.out).mono ?_
    rintro e w3 ⟨v3, rfl, own3, hb3⟩
    have hb03 : Below w.heap.size w w3 := bl_trans hb02 hb3
    have hz3 := hb3.size
    have hown3 := own_below hown2 hb3
    have hap3 := Lib.hid (apart_new own3 hown2 (Nat.le_refl _))
    have own3' := own_mono own3 (Nat.zero_le _)
    obtain ⟨sw, hsw⟩ : ∃ sw, swapsF (orderF m cs) = sw := ⟨_, rfl⟩
    rw [hsw] at own3' hi49
    have HH2 : Hid (homeL (m : Int) cs = wayL sw) := by rw [← hsw]; exact HH.out
    clear own3 hb3 hr2 hown2 hb02 HH hsw
    obtain ⟨A3, c3, rfl, _, _⟩ := (RdS.of_own own3').form
    go_wp2_with fail
    go_loopw [6, 8] (fun p i wr => ∃ k : Nat, k ≤ sw.length ∧ i = .int .i64 k ∧ wr.ownsRow w.heap.size 115 2 p k ((wayL (sw.take k)).flatMap cCross) ∧ wr.ownsRow 0 3 1 (.slice A3 sw.length c3) sw.length (sw.flatMap cInt) ∧ Hid (Apart (.slice A3 sw.length c3) p) ∧ Below w.heap.size w wr) (fun _ i _ => sw.length - (intOf i).toNat)
    case atStart => exact ⟨0, Nat.zero_le _, rfl, hown3, own3', hap3, hb03⟩
    case round =>
      obtain ⟨k, hk, rfl, hp, hs, hap, hb⟩ := hrel
      clear hown3 own3' hap3 hb03
      have hz := hb.size
      obtain ⟨Ap, cp, rfl, _, _⟩ := (RdS.of_own hp).form
      by_cases hlt : k < sw.length
      · have hrs : RdL cInt 1 wr (.slice A3 sw.length c3) sw := RdS.of_own hs
        obtain ⟨g, off, rfl, hg, hc⟩ := hrs.cell cInt_len (by omega) hlt
        have k0 := hc 0 _ rfl
        simp only [Nat.add_zero, Nat.mul_one] at k0
        clear hc
        have Hw := Lib.hid (wayL_snoc sw hlt)
        generalize sw[k] = x at *
        go_wp2_with (at_builtin; refine wpList_appendB _ rfl (.tmp 25) (.tmp 31) _ rfl w.heap.size 115 iX _ 2 16 Try.underlying44 hiX hzX0 hzX1 hzX2 rfl (by omega) _ k ((wayL (sw.take k)).flatMap cCross) rfl (hp.alloc _) _ 1 [.int .i64 x, .bool true] rfl (rdS_new wr #[.int .i64 x, .bool true] _ 2 1 rfl (by simp [maxLen])) (by simp [Value.oneCell']) (by simp [maxLen]; omega) (by omega) (by simp; omega) ?_; intro v4 w4 own4 gr4 at4)
        obtain ⟨A4, c4, rfl, _, _⟩ := (RdS.of_own own4).form
        have hch := Chg.of_grown gr4
        have hb4 := below_own (hp.alloc _) gr4 (by simp; omega)
        have q4 := Lib.hid (own_chg (hs.alloc _) hch hap.out)
        have ap4 := Lib.hid (apart_grow (hs.alloc _) hap.out (Nat.le_refl _) at4)
        clear gr4 at4 hch
        go_wp2_with fail
        go_roundw
        case rel => exact ⟨k + 1, by omega, by go_num, by rw [Hw.out, List.flatMap_append]; exact own4, q4.out, ap4.out, (hb.alloc (by omega) _).trans hb4⟩
        case measure => simp [intOf]; omega
      · obtain rfl : k = sw.length := by omega
        rw [List.take_length] at hp
        go_wp2_with fail
        go_ret2
        rw [HQ.out, HH2.out, wayL_len]
        exact ⟨_, rfl, hp, hb⟩
  · have hb01 : Below w.heap.size w w1 := bl_trans hal hb1
    have hown1 := own_below hownA hb1
    clear hal h3 hownA hb1
    go_wp2_with fail
    go_ret2
    rw [hq.out, homeL_f hq.out]
    exact ⟨_, rfl, hown1, hb01⟩
end Go.Proofs.Ytjbhlbcjljdjmaa
