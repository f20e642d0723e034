/- Contracts: distances. -/
import Derived.Test.YtkejgogheonakaaB2
import Derived.Test.YtkejgogheonakaaI9
import Derived.Test.YtkejgogheonakaaV3
import Derived.Test.YtkejgogheonakaaSBody
import Derived.Test.YtkejgogheonakaaM8
import Derived.Deep.DeepCutAuto
namespace Go.Proofs.Ytkejgogheonakaa
open Go.RowKit

def fillL (n m : Nat) : List Int := List.replicate m (-1) ++ List.replicate (n - m) 0
theorem fillL_len {n m : Nat} (h : m ≤ n) : (fillL n m).length = n := by simp [fillL]; omega
theorem fillL_zero (n : Nat) : fillL n 0 = List.replicate n 0 := by simp [fillL]
theorem fillL_end (n : Nat) : fillL n n = List.replicate n (-1) := by simp [fillL]
theorem fillL_set {n m : Nat} (h : m < n) : (fillL n m).set m (-1) = fillL n (m + 1) := by
  apply List.ext_getElem
  · simp [fillL]; omega
  · intro i h1 h2
    rw [List.getElem_set]
    simp only [fillL, List.getElem_append, List.getElem_replicate, List.length_replicate]
    by_cases e : m = i
    · subst e; simp
    · rw [if_neg e]
      by_cases h3 : i < m
      · rw [dif_pos h3, dif_pos (by omega)]
      · rw [dif_neg h3, dif_neg (by omega)]
/- the step, case by case -/
theorem dStep_ab {d : List Int} {t : Int × Int × Int} {a b : Nat} (e1 : t.1 = (a : Int)) (e2 : t.2.1 = (b : Int)) (ha : a < d.length) (hb : b < d.length) (hl : 0 ≤ t.2.2) (h1 : 0 ≤ d[a]) (h2 : d[b] < 0) : dStep d t = d.set b (d[a] + t.2.2) := by
  have ga := dGet_at ha
  have gb := dGet_at hb
  have hab : ¬ a = b := by rintro rfl; omega
  unfold dStep
  rw [e1, e2, Int.toNat_natCast, Int.toNat_natCast]
  rw [show dSet1 d a b t.2.2 = d.set b (d[a] + t.2.2) by unfold dSet1; rw [if_pos (by omega), ga]]
  unfold dSet1
  rw [if_neg]
  rw [dGet_set hb, dGet_set hb, if_neg hab]
  omega
theorem dStep_ba {d : List Int} {t : Int × Int × Int} {a b : Nat} (e1 : t.1 = (a : Int)) (e2 : t.2.1 = (b : Int)) (ha : a < d.length) (hb : b < d.length) (h1 : 0 ≤ d[b]) (h2 : d[a] < 0) : dStep d t = d.set a (d[b] + t.2.2) := by
  have ga := dGet_at ha
  have gb := dGet_at hb
  unfold dStep
  rw [e1, e2, Int.toNat_natCast, Int.toNat_natCast]
  rw [show dSet1 d a b t.2.2 = d by unfold dSet1; rw [if_neg (by omega)]]
  unfold dSet1
  rw [if_pos (by omega), gb]
theorem dStep_no {d : List Int} {t : Int × Int × Int} {a b : Nat} (e1 : t.1 = (a : Int)) (e2 : t.2.1 = (b : Int)) (ha : a < d.length) (hb : b < d.length) (h : (0 ≤ d[a] ∧ 0 ≤ d[b]) ∨ (d[a] < 0 ∧ d[b] < 0)) : dStep d t = d := by
  have ga := dGet_at ha
  have gb := dGet_at hb
  unfold dStep
  rw [e1, e2, Int.toNat_natCast, Int.toNat_natCast]
  rw [show dSet1 d a b t.2.2 = d by unfold dSet1; rw [if_neg (by omega)]]
  unfold dSet1
  rw [if_neg (by omega)]
theorem dRound_snoc (l : List RLimb) (d : List Int) {k : Nat} (h : k < l.length) : dRound (l.take (k + 1)) d = dStep (dRound (l.take k) d) l[k] := by
  unfold dRound
  rw [foldl_take_succ dStep d l h]
theorem dRound_take_len (l : List RLimb) (d : List Int) (k : Nat) : (dRound (l.take k) d).length = d.length := dRound_len _ _
/-- all distances on the way are small -/
theorem dist_way_bd {l : List RLimb} (hl : ∀ t ∈ l, 0 ≤ t.2.2 ∧ t.2.2 ≤ 100) (hlen : l.length ≤ 11) (n k i j : Nat) (hi : i ≤ 12) : ∀ x ∈ dRound (l.take j) (dRounds l (dist0 n k) i), -1 ≤ x ∧ x ≤ 40000 := by
  intro x hx
  have h1 := dists_bd hl hlen (dist0 n k) (dist0_bd n k) i
  have h2 := dist_bd (l := l.take j) (fun t ht => hl t (List.mem_of_mem_take ht)) _ _ h1 (by omega) x hx
  rw [List.length_take] at h2
  omega

set_option maxHeartbeats 4000000 in
set_option maxRecDepth 100000 in
theorem distances_any (n : Nat) (v : Value) (l : List RLimb) (k : Nat) (w : World) (h : RdL cLimb 3 w v l) (hn : 1 ≤ n ∧ n ≤ 12) (hlen : l.length ≤ 11) (hb : l.all (limbB n) = true) (hk : k < n) :
    Calls Try.prog 83 #[.agg #[.int .i64 (n : Int), v], .int .i64 (k : Int)] w fun e w' => ∃ v', e = .returned v' ∧ w'.ownsRow w.heap.size 3 1 v' n ((distF n l k).flatMap cInt) ∧ Below w.heap.size w w' := by
  obtain ⟨A, c, rfl, h1, h2⟩ := h.form
  obtain ⟨i0, hi0, hz0, hz1, hz2⟩ := info_parts infoInt
  have HL := Lib.hid (limbs_of hb)
  clear hb
  go_enter Try.func83, Try.ntmps83
  go_upto_region 1 with (fail)
  have hbW : Below w.heap.size w (w.alloc (.cells #[.int .i64 (n : Int), .slice A l.length c] 47)) := by (repeat' (first | (with_reducible exact Below.refl _ _) | (with_reducible assumption) | (with_reducible refine Below.setCell ?_ (by first | omega | (simp; omega) | (simp; done)) _) | (with_reducible refine Below.alloc ?_ (by first | omega | (simp; omega) | (simp; done)) _) | (with_reducible refine Below.drew ?_) | (with_reducible refine below_drewN ?_ _)))
  have Lb : Loc (w.alloc (.cells #[.int .i64 (n : Int), .slice A l.length c] 47)) w.heap.size [.int .i64 (n : Int), .slice A l.length c] := Loc.new w #[.int .i64 (n : Int), .slice A l.length c] 47
  have hzW : (w.alloc (.cells #[.int .i64 (n : Int), .slice A l.length c] 47)).heap.size = w.heap.size + 1 := by simp
  generalize w.alloc (.cells #[.int .i64 (n : Int), .slice A l.length c] 47) = W at *
  have hW : RdL cLimb 3 W (.slice A l.length c) l := h.below hbW
  have b0w := (Lb 0 _ rfl).1
  have b1w := (Lb 1 _ rfl).1
  have HzW := Lib.hid hzW
  have hn1 : ¬ w.heap.size = W.heap.size := by omega
  have hn2 : ¬ W.heap.size = w.heap.size := by omega
  clear hzW
  go_wp2_with (at_make; refine wpList_make_full _ rfl _ _ _ rfl W.heap.size 3 i0 _ 1 Try.underlying26 hi0 hz0 hz1 _ _ _ _ n rfl rfl rfl rfl (by rw [hz2]; omega) (by simp [maxLen]; omega) (Nat.le_refl _) ?_; intro w2 hown hgr)
  have hb2 : Below W.heap.size W w2 := Below.grown (Below.refl _ _) hgr (by omega) (by simp)
  rw [Nat.mul_one, row_made, ← fillL_zero] at hown
  have hg0 := hown.lt W.heap.size rfl
  go_loopw [14] (fun i wr => ∃ m : Nat, m ≤ n ∧ i = .int .i64 m ∧ wr.ownsRow W.heap.size 3 1 (.slice (some ⟨W.heap.size, 0, none⟩) n n) n ((fillL n m).flatMap cInt) ∧ Below W.heap.size W wr) (fun i _ => n - (intOf i).toNat)
  case atStart => exact ⟨0, Nat.zero_le _, rfl, hown, hb2⟩
  case round =>
    obtain ⟨m, hm, rfl, hown, hbr⟩ := hrel
    have hzr := hbr.size
    have b0 := carry hbr b0w
    have b1 := carry hbr b1w
    have hlf := fillL_len hm
    by_cases hlt : m < n
    · have hst := row_stored hown m (-1)
      rw [fillL_set hlt] at hst
      have k3 := row_cell hown (k := m) (by omega)
      have f3 := hown.frozenAt m
      go_wp2_with fail
      go_roundw
      case rel => exact ⟨m + 1, by omega, by go_num, hst, by (repeat' (first | exact Below.refl _ _ | (refine Below.setCell ?_ (by first | omega | (simp; omega) | (simp; done)) _) | (refine Below.alloc ?_ (by first | omega | (simp; omega) | (simp; done)) _) | (refine Below.drew ?_) | (refine below_drewN ?_ _) | (refine Below.trans ?_ (Below.mono (by assumption) (by first | omega | (simp; omega) | (simp; done))))))⟩
      case measure => simp [intOf]; omega
    · obtain rfl : m = n := by omega
      have hst := row_stored hown k 0
      have k3 := row_cell hown (k := k) (by omega)
      have f3 := hown.frozenAt k
      rw [fillL_end] at hst
      have hst : (wr.setCell ⟨W.heap.size, k, none⟩ (.int .i64 0)).ownsRow W.heap.size 3 1 (.slice (some ⟨W.heap.size, 0, none⟩) m m) m ((dRounds l (dist0 m k) 0).flatMap cInt) := hst
      go_wp2_with fail
      clear hown hgr hb2 hg0 hlf k3 f3 b0 b1
      go_loopw [26] (fun i wr => ∃ q : Nat, q ≤ m ∧ i = .int .i64 q ∧ wr.ownsRow W.heap.size 3 1 (.slice (some ⟨W.heap.size, 0, none⟩) m m) m ((dRounds l (dist0 m k) q).flatMap cInt) ∧ Below W.heap.size W wr) (fun i _ => m - (intOf i).toNat)
      case atStart => exact ⟨0, Nat.zero_le _, rfl, hst, by (repeat' (first | exact Below.refl _ _ | (refine Below.setCell ?_ (by first | omega | (simp; omega) | (simp; done)) _) | (refine Below.alloc ?_ (by first | omega | (simp; omega) | (simp; done)) _) | (refine Below.drew ?_) | (refine below_drewN ?_ _) | (refine Below.trans ?_ (Below.mono (by assumption) (by first | omega | (simp; omega) | (simp; done))))))⟩
      case round =>
        obtain ⟨q, hq, rfl, hown, hbq⟩ := hrel
        have hzq := hbq.size
        have b0 := carry hbq b0w
        have b1 := carry hbq b1w
        by_cases hltq : q < m
        · have hown0 : wr.ownsRow W.heap.size 3 1 (.slice (some ⟨W.heap.size, 0, none⟩) m m) m ((dRound (l.take 0) (dRounds l (dist0 m k) q)).flatMap cInt) := hown
          clear hown
          go_wp2_with fail
          clear b0 b1
          go_loopw [31] (fun i wi => ∃ j : Nat, j ≤ l.length ∧ i = .int .i64 j ∧ wi.ownsRow W.heap.size 3 1 (.slice (some ⟨W.heap.size, 0, none⟩) m m) m ((dRound (l.take j) (dRounds l (dist0 m k) q)).flatMap cInt) ∧ Below W.heap.size W wi) (fun i _ => l.length - (intOf i).toNat)
          case atStart => exact ⟨0, Nat.zero_le _, rfl, hown0, hbq⟩
          case round =>
            obtain ⟨j, hj, rfl, hown, hbi⟩ := hrel
            by_cases hltj : j < l.length
            · obtain ⟨t1, t2, t3, t4, t5, t6⟩ := HL.out _ (List.getElem_mem hltj) |> fun x => (⟨x.1.1, x.1.2, x.2.1.1, x.2.1.2, x.2.2.1, x.2.2.2⟩ : _ ∧ _ ∧ _ ∧ _ ∧ _ ∧ _)
              have hbd := Lib.hid (dist_way_bd (l := l) (fun t ht => by have := HL.out t ht; omega) hlen m k q j (by omega))
              have hnx := Lib.hid (dRound_snoc l (dRounds l (dist0 m k) q) hltj)
              have hdl := row_len hown
              obtain ⟨g, off, rfl, hg, hc'⟩ := (hW.below hbi).cell cLimb_len (by omega) hltj
              have c0 := hc' 0 _ rfl
              have c1 := hc' 1 _ rfl
              have c2 := hc' 2 _ rfl
              simp only [Nat.add_zero] at c0 c1 c2
              clear hc'
              obtain ⟨a, ea⟩ : ∃ a : Nat, l[j].1 = (a : Int) := ⟨l[j].1.toNat, by omega⟩
              obtain ⟨b, eb⟩ : ∃ b : Nat, l[j].2.1 = (b : Int) := ⟨l[j].2.1.toNat, by omega⟩
              rw [ea] at t1 t2 c0
              rw [eb] at t3 t4 c1
              have Ea := Lib.hid ea
              have Eb := Lib.hid eb
              clear ea eb
              have la : a < (dRound (l.take j) (dRounds l (dist0 m k) q)).length := by omega
              have lb : b < (dRound (l.take j) (dRounds l (dist0 m k) q)).length := by omega
              have Hab := Lib.hid (fun h1 h2 => dStep_ab (d := dRound (l.take j) (dRounds l (dist0 m k) q)) Ea.out Eb.out la lb (by omega) h1 h2)
              have Hba := Lib.hid (fun h1 h2 => dStep_ba (d := dRound (l.take j) (dRounds l (dist0 m k) q)) Ea.out Eb.out la lb h1 h2)
              have Hno := Lib.hid (fun h => dStep_no (d := dRound (l.take j) (dRounds l (dist0 m k) q)) Ea.out Eb.out la lb h)
              rw [← hnx.out] at Hab Hba Hno
              generalize l[j].2.2 = len at *
              have b0 := carry hbi b0w
              have b1 := carry hbi b1w
              have ka := row_cell hown (k := a) (by omega)
              have kb := row_cell hown (k := b) (by omega)
              have fa := hown.frozenAt a
              have fb := hown.frozenAt b
              have sa := fun x => row_stored (w := (wr.alloc (.cells #[.int .i64 (a : Int), .int .i64 (b : Int), .int .i64 len] 112)).drew) (own_below hown (by (repeat' (first | (with_reducible exact Below.refl _ _) | (with_reducible assumption) | (with_reducible refine Below.setCell ?_ (by first | omega | (simp; omega) | (simp; done)) _) | (with_reducible refine Below.alloc ?_ (by first | omega | (simp; omega) | (simp; done)) _) | (with_reducible refine Below.drew ?_) | (with_reducible refine below_drewN ?_ _))))) a x
              have sb := fun x => row_stored (w := (wr.alloc (.cells #[.int .i64 (a : Int), .int .i64 (b : Int), .int .i64 len] 112)).drew) (own_below hown (by (repeat' (first | (with_reducible exact Below.refl _ _) | (with_reducible assumption) | (with_reducible refine Below.setCell ?_ (by first | omega | (simp; omega) | (simp; done)) _) | (with_reducible refine Below.alloc ?_ (by first | omega | (simp; omega) | (simp; done)) _) | (with_reducible refine Below.drew ?_) | (with_reducible refine below_drewN ?_ _))))) b x
              have ba := hbd.out _ (List.getElem_mem la)
              have bb := hbd.out _ (List.getElem_mem lb)
              clear hdl hnx
              generalize (dRound (l.take j) (dRounds l (dist0 m k) q))[a] = da at *
              generalize (dRound (l.take j) (dRounds l (dist0 m k) q))[b] = db at *
              have Sa := Lib.hid sa
              have Sb := Lib.hid sb
              clear sa sb
              have hgi := (hown.lt W.heap.size rfl).2
              have am : a < m := by omega
              have bm : b < m := by omega
              have hn3 : ¬ wr.heap.size = W.heap.size := by omega
              have hn4 : ¬ W.heap.size = wr.heap.size := by omega
              go_upto_region 13 with (fail)
              have hbV : Below W.heap.size W (wr.alloc (.cells #[.int .i64 (a : Int), .int .i64 (b : Int), .int .i64 len] 112)) := by (repeat' (first | (with_reducible exact Below.refl _ _) | (with_reducible assumption) | (with_reducible refine Below.setCell ?_ (by first | omega | (simp; omega) | (simp; done)) _) | (with_reducible refine Below.alloc ?_ (by first | omega | (simp; omega) | (simp; done)) _) | (with_reducible refine Below.drew ?_) | (with_reducible refine below_drewN ?_ _)))
              have Ll : Loc (wr.alloc (.cells #[.int .i64 (a : Int), .int .i64 (b : Int), .int .i64 len] 112)) wr.heap.size [.int .i64 (a : Int), .int .i64 (b : Int), .int .i64 len] := Loc.new wr #[.int .i64 (a : Int), .int .i64 (b : Int), .int .i64 len] 112
              have hbv : Below wr.heap.size wr (wr.alloc (.cells #[.int .i64 (a : Int), .int .i64 (b : Int), .int .i64 len] 112)) := by (repeat' (first | (with_reducible exact Below.refl _ _) | (with_reducible assumption) | (with_reducible refine Below.setCell ?_ (by first | omega | (simp; omega) | (simp; done)) _) | (with_reducible refine Below.alloc ?_ (by first | omega | (simp; omega) | (simp; done)) _) | (with_reducible refine Below.drew ?_) | (with_reducible refine below_drewN ?_ _)))
              have hdr := Lib.hid (own_below hown hbv)
              replace ka := carry hbv ka
              replace kb := carry hbv kb
              replace fa := (hown.frozenAt a |> fun _ => (hdr.out).frozenAt a)
              replace fb := hdr.out.frozenAt b
              replace b0 := carry hbv b0
              replace b1 := carry hbv b1
              replace hgi : W.heap.size < (wr.alloc (.cells #[.int .i64 (a : Int), .int .i64 (b : Int), .int .i64 len] 112)).heap.size := by simp; omega
              have hzV := hbV.size
              clear hown c0 c1 c2 hbv
              generalize (wr.alloc (.cells #[.int .i64 (a : Int), .int .i64 (b : Int), .int .i64 len] 112)) = V at *
              have l0 := (Ll 0 _ rfl).1
              have l1 := (Ll 1 _ rfl).1
              have l2 := (Ll 2 _ rfl).1
              have hab : a = b → da = db := fun e => by subst e; have := ka.symm.trans kb; simpa using this
              by_cases hda : 0 ≤ da <;> by_cases hdb : 0 ≤ db
              · go_wp2_with fail
                go_roundw
                case rel => exact ⟨j + 1, by omega, by go_num, by rw [Hno.out (.inl ⟨hda, hdb⟩)]; exact hdr.out, by (repeat' (first | exact Below.refl _ _ | (refine Below.setCell ?_ (by first | omega | (simp; omega) | (simp; done)) _) | (refine Below.alloc ?_ (by first | omega | (simp; omega) | (simp; done)) _) | (refine Below.drew ?_) | (refine below_drewN ?_ _) | (refine Below.trans ?_ (Below.mono (by assumption) (by first | omega | (simp; omega) | (simp; done))))))⟩
                case measure => simp [intOf]; omega
              · have hda0 : da ≥ 0 := hda
                have hw := IntWalk.i64_in (da + len) (by omega)
                go_wp2_with fail
                go_still_tail 12, (by kernel_rfl)
                clear hw
                change wpList _ _ _ _ _ (World.drew V)
                have hge : 0 ≤ da + len := by omega
                have hab1 : ¬ a = b := fun e => by have := hab e; omega
                have hab2 : ¬ b = a := fun e => by have := hab e.symm; omega
                clear hab
                go_wp2_with fail
                go_roundw
                case rel => exact ⟨j + 1, by omega, by go_num, by rw [Hab.out hda (by omega)]; exact Sb.out _, by (repeat' (first | exact Below.refl _ _ | (refine Below.setCell ?_ (by first | omega | (simp; omega) | (simp; done)) _) | (refine Below.alloc ?_ (by first | omega | (simp; omega) | (simp; done)) _) | (refine Below.drew ?_) | (refine below_drewN ?_ _) | (refine Below.trans ?_ (Below.mono (by assumption) (by first | omega | (simp; omega) | (simp; done))))))⟩
                case measure => simp [intOf]; omega
              · have hdb0 : db ≥ 0 := hdb
                have hw := IntWalk.i64_in (db + len) (by omega)
                go_wp2_with fail
                go_still_tail 12, (by kernel_rfl)
                clear hw
                change wpList _ _ _ _ _ (World.drew V)
                go_wp2_with fail
                go_roundw
                case rel => exact ⟨j + 1, by omega, by go_num, by rw [Hba.out hdb (by omega)]; exact Sa.out _, by (repeat' (first | exact Below.refl _ _ | (refine Below.setCell ?_ (by first | omega | (simp; omega) | (simp; done)) _) | (refine Below.alloc ?_ (by first | omega | (simp; omega) | (simp; done)) _) | (refine Below.drew ?_) | (refine below_drewN ?_ _) | (refine Below.trans ?_ (Below.mono (by assumption) (by first | omega | (simp; omega) | (simp; done))))))⟩
                case measure => simp [intOf]; omega
              · go_wp2_with fail
                go_roundw
                case rel => exact ⟨j + 1, by omega, by go_num, by rw [Hno.out (.inr ⟨by omega, by omega⟩)]; exact hdr.out, by (repeat' (first | exact Below.refl _ _ | (refine Below.setCell ?_ (by first | omega | (simp; omega) | (simp; done)) _) | (refine Below.alloc ?_ (by first | omega | (simp; omega) | (simp; done)) _) | (refine Below.drew ?_) | (refine below_drewN ?_ _) | (refine Below.trans ?_ (Below.mono (by assumption) (by first | omega | (simp; omega) | (simp; done))))))⟩
                case measure => simp [intOf]; omega
            · obtain rfl : j = l.length := by omega
              rw [List.take_length] at hown
              go_wp2_with fail
              go_roundw
              case rel => exact ⟨q + 1, by omega, by go_num, hown, hbi⟩
              case measure => simp [intOf]; omega
        · obtain rfl : q = m := by omega
          go_wp2_with fail
          go_ret
          exact ⟨_, rfl, own_mono hown (by have := HzW.out; omega), Below.trans hbW (hbq.mono (by have := HzW.out; omega))⟩
end Go.Proofs.Ytkejgogheonakaa
