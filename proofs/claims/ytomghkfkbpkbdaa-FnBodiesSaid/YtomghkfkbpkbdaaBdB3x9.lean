/- Several texts in one: Contracts: distances. Contracts: BodyOk, isJoint. Contracts: BodyOk of the reference. Bodies in plain words: limbs at a joint, ends, lengths; a tree's degrees; one more limb. No program in sight. Contracts: AddLimb. Written by a program (gen_k14.py). Contracts: has and sameInts of the laws; ControlOk, PullsOf, JointsHeld at controls as they are drawn. Contracts: the exchanges that sort, the way home, of the reference. Contracts: the limbs at a joint, the ends, the length of a body (of the program); bodies are ones. Samples of bodies, the drawing of a body. Written by a program (gen_g4.py). -/
import Derived.Deep.DeepCutAuto
import Derived.Deep.QuietTactic
import Derived.StillTailTactics
import Derived.IntWalk
import Derived.Test.YtomghkfkbpkbdaaBdA1x10
import Derived.Test.YtomghkfkbpkbdaaBdC1x8
import Derived.Test.YtomghkfkbpkbdaaBdK3x4
import Derived.Test.YtomghkfkbpkbdaaBdI7x11
import Derived.Test.YtomghkfkbpkbdaaBdM7x2
import Derived.Test.YtomghkfkbpkbdaaBdCPBodyx2
import Derived.Test.YtomghkfkbpkbdaaBdK1x3
import Derived.Test.YtomghkfkbpkbdaaY2
import Derived.Test.YtomghkfkbpkbdaaBdM5x9
import Derived.Test.YtomghkfkbpkbdaaBdU3x2
namespace Go.Proofs.Ytomghkfkbpkbdaa
open Go.RowKit

def fillL (n m : Nat) : List Int := List.replicate m (-1) ++ List.replicate (n - m) 0
theorem fillL_len {n m : Nat} (h : m ≤ n) : (fillL n m).length = n := by simp [fillL]; omega
theorem fillL_zero (n : Nat) : fillL n 0 = List.replicate n 0 := by simp [fillL]
theorem fillL_end (n : Nat) : fillL n n = List.replicate n (-1) := by simp [fillL]
theorem fillL_set {n m : Nat} (h : m < n) : (fillL n m).set m (-1) = fillL n (m + 1) := by
  apply List.ext_getElem
  · simp [fillL]; omega
  · intro i h1 h2
    rw [List.getElem_set]
    simp only [fillL, List.getElem_append, List.getElem_replicate, List.length_replicate]
    by_cases e : m = i
    · subst e; simp
    · rw [if_neg e]
      by_cases h3 : i < m
      · rw [dif_pos h3, dif_pos (by omega)]
      · rw [dif_neg h3, dif_neg (by omega)]
/- the step, case by case -/
theorem dStep_ab {d : List Int} {t : Int × Int × Int} {a b : Nat} (e1 : t.1 = (a : Int)) (e2 : t.2.1 = (b : Int)) (ha : a < d.length) (hb : b < d.length) (hl : 0 ≤ t.2.2) (h1 : 0 ≤ d[a]) (h2 : d[b] < 0) : dStep d t = d.set b (d[a] + t.2.2) := by
  have ga := dGet_at ha
  have gb := dGet_at hb
  have hab : ¬ a = b := by rintro rfl; omega
  unfold dStep
  rw [e1, e2, Int.toNat_natCast, Int.toNat_natCast]
  rw [show dSet1 d a b t.2.2 = d.set b (d[a] + t.2.2) by unfold dSet1; rw [if_pos (by omega), ga]]
  unfold dSet1
  rw [if_neg]
  rw [dGet_set hb, dGet_set hb, if_neg hab]
  omega
theorem dStep_ba {d : List Int} {t : Int × Int × Int} {a b : Nat} (e1 : t.1 = (a : Int)) (e2 : t.2.1 = (b : Int)) (ha : a < d.length) (hb : b < d.length) (h1 : 0 ≤ d[b]) (h2 : d[a] < 0) : dStep d t = d.set a (d[b] + t.2.2) := by
  have ga := dGet_at ha
  have gb := dGet_at hb
  unfold dStep
  rw [e1, e2, Int.toNat_natCast, Int.toNat_natCast]
  rw [show dSet1 d a b t.2.2 = d by unfold dSet1; rw [if_neg (by omega)]]
  unfold dSet1
  rw [if_pos (by omega), gb]
theorem dStep_no {d : List Int} {t : Int × Int × Int} {a b : Nat} (e1 : t.1 = (a : Int)) (e2 : t.2.1 = (b : Int)) (ha : a < d.length) (hb : b < d.length) (h : (0 ≤ d[a] ∧ 0 ≤ d[b]) ∨ (d[a] < 0 ∧ d[b] < 0)) : dStep d t = d := by
  have ga := dGet_at ha
  have gb := dGet_at hb
  unfold dStep
  rw [e1, e2, Int.toNat_natCast, Int.toNat_natCast]
  rw [show dSet1 d a b t.2.2 = d by unfold dSet1; rw [if_neg (by omega)]]
  unfold dSet1
  rw [if_neg (by omega)]
theorem dRound_snoc (l : List RLimb) (d : List Int) {k : Nat} (h : k < l.length) : dRound (l.take (k + 1)) d = dStep (dRound (l.take k) d) l[k] := by
  unfold dRound
  rw [foldl_take_succ dStep d l h]
theorem dRound_take_len (l : List RLimb) (d : List Int) (k : Nat) : (dRound (l.take k) d).length = d.length := dRound_len _ _
/-- all distances on the way are small -/
theorem dist_way_bd {l : List RLimb} (hl : ∀ t ∈ l, 0 ≤ t.2.2 ∧ t.2.2 ≤ 100) (hlen : l.length ≤ 11) (n k i j : Nat) (hi : i ≤ 12) : ∀ x ∈ dRound (l.take j) (dRounds l (dist0 n k) i), -1 ≤ x ∧ x ≤ 40000 := by
  intro x hx
  have h1 := dists_bd hl hlen (dist0 n k) (dist0_bd n k) i
  have h2 := dist_bd (l := l.take j) (fun t ht => hl t (List.mem_of_mem_take ht)) _ _ h1 (by omega) x hx
  rw [List.length_take] at h2
  omega

set_option maxHeartbeats 4000000 in
set_option maxRecDepth 100000 in
theorem distances_any (n : Nat) (v : Value) (l : List RLimb) (k : Nat) (w : World) (h : RdL cLimb 3 w v l) (hn : 1 ≤ n ∧ n ≤ 12) (hlen : l.length ≤ 11) (hb : l.all (limbB n) = true) (hk : k < n) :
    Calls Try.prog 35 #[.agg #[.int .i64 (n : Int), v], .int .i64 (k : Int)] w fun e w' => ∃ v', e = .returned v' ∧ w'.ownsRow w.heap.size 3 1 v' n ((distF n l k).flatMap cInt) ∧ Below w.heap.size w w' := by
  obtain ⟨A, c, rfl, h1, h2⟩ := h.form
  obtain ⟨i0, hi0, hz0, hz1, hz2⟩ := info_parts infoInt
  have HL := Lib.hid (limbs_of hb)
  clear hb
  go_enter Try.func35, Try.ntmps35
  go_upto_region 1 with (fail)
  have hbW : Below w.heap.size w (w.alloc (.cells #[.int .i64 (n : Int), .slice A l.length c] 26)) := by (repeat' (first | (with_reducible exact Below.refl _ _) | (with_reducible assumption) | (with_reducible refine Below.setCell ?_ (by first | omega | (simp; omega) | (simp; done)) _) | (with_reducible refine Below.alloc ?_ (by first | omega | (simp; omega) | (simp; done)) _) | (with_reducible refine Below.drew ?_) | (with_reducible refine below_drewN ?_ _)))
  have Lb : Loc (w.alloc (.cells #[.int .i64 (n : Int), .slice A l.length c] 26)) w.heap.size [.int .i64 (n : Int), .slice A l.length c] := Loc.new w #[.int .i64 (n : Int), .slice A l.length c] 26
  have hzW : (w.alloc (.cells #[.int .i64 (n : Int), .slice A l.length c] 26)).heap.size = w.heap.size + 1 := by simp
  generalize w.alloc (.cells #[.int .i64 (n : Int), .slice A l.length c] 26) = W at *
  have hW : RdL cLimb 3 W (.slice A l.length c) l := h.below hbW
  have b0w := (Lb 0 _ rfl).1
  have b1w := (Lb 1 _ rfl).1
  have HzW := Lib.hid hzW
  have hn1 : ¬ w.heap.size = W.heap.size := by omega
  have hn2 : ¬ W.heap.size = w.heap.size := by omega
  clear hzW
  go_wp2_with (at_make; refine wpList_make_full _ rfl _ _ _ rfl W.heap.size 3 i0 _ 1 Try.underlying28 hi0 hz0 hz1 _ _ _ _ n rfl rfl rfl rfl (by rw [hz2]; omega) (by simp [maxLen]; omega) (Nat.le_refl _) ?_; intro w2 hown hgr)
  have hb2 : Below W.heap.size W w2 := Below.grown (Below.refl _ _) hgr (by omega) (by simp)
  rw [Nat.mul_one, row_made, ← fillL_zero] at hown
  have hg0 := hown.lt W.heap.size rfl
  go_loopw [14] (fun i wr => ∃ m : Nat, m ≤ n ∧ i = .int .i64 m ∧ wr.ownsRow W.heap.size 3 1 (.slice (some ⟨W.heap.size, 0, none⟩) n n) n ((fillL n m).flatMap cInt) ∧ Below W.heap.size W wr) (fun i _ => n - (intOf i).toNat)
  case atStart => exact ⟨0, Nat.zero_le _, rfl, hown, hb2⟩
  case round =>
    obtain ⟨m, hm, rfl, hown, hbr⟩ := hrel
    have hzr := hbr.size
    have b0 := carry hbr b0w
    have b1 := carry hbr b1w
    have hlf := fillL_len hm
    by_cases hlt : m < n
    · have hst := row_stored hown m (-1)
      rw [fillL_set hlt] at hst
      have k3 := row_cell hown (k := m) (by omega)
      have f3 := hown.frozenAt m
      go_wp2_with fail
      go_roundw
      case rel => exact ⟨m + 1, by omega, by go_num, hst, by (repeat' (first | exact Below.refl _ _ | (refine Below.setCell ?_ (by first | omega | (simp; omega) | (simp; done)) _) | (refine Below.alloc ?_ (by first | omega | (simp; omega) | (simp; done)) _) | (refine Below.drew ?_) | (refine below_drewN ?_ _) | (refine Below.trans ?_ (Below.mono (by assumption) (by first | omega | (simp; omega) | (simp; done))))))⟩
      case measure => simp [intOf]; omega
    · obtain rfl : m = n := by omega
      have hst := row_stored hown k 0
      have k3 := row_cell hown (k := k) (by omega)
      have f3 := hown.frozenAt k
      rw [fillL_end] at hst
      have hst : (wr.setCell ⟨W.heap.size, k, none⟩ (.int .i64 0)).ownsRow W.heap.size 3 1 (.slice (some ⟨W.heap.size, 0, none⟩) m m) m ((dRounds l (dist0 m k) 0).flatMap cInt) := hst
      go_wp2_with fail
      clear hown hgr hb2 hg0 hlf k3 f3 b0 b1
      go_loopw [26] (fun i wr => ∃ q : Nat, q ≤ m ∧ i = .int .i64 q ∧ wr.ownsRow W.heap.size 3 1 (.slice (some ⟨W.heap.size, 0, none⟩) m m) m ((dRounds l (dist0 m k) q).flatMap cInt) ∧ Below W.heap.size W wr) (fun i _ => m - (intOf i).toNat)
      case atStart => exact ⟨0, Nat.zero_le _, rfl, hst, by (repeat' (first | exact Below.refl _ _ | (refine Below.setCell ?_ (by first | omega | (simp; omega) | (simp; done)) _) | (refine Below.alloc ?_ (by first | omega | (simp; omega) | (simp; done)) _) | (refine Below.drew ?_) | (refine below_drewN ?_ _) | (refine Below.trans ?_ (Below.mono (by assumption) (by first | omega | (simp; omega) | (simp; done))))))⟩
      case round =>
        obtain ⟨q, hq, rfl, hown, hbq⟩ := hrel
        have hzq := hbq.size
        have b0 := carry hbq b0w
        have b1 := carry hbq b1w
        by_cases hltq : q < m
        · have hown0 : wr.ownsRow W.heap.size 3 1 (.slice (some ⟨W.heap.size, 0, none⟩) m m) m ((dRound (l.take 0) (dRounds l (dist0 m k) q)).flatMap cInt) := hown
          clear hown
          go_wp2_with fail
          clear b0 b1
          go_loopw [31] (fun i wi => ∃ j : Nat, j ≤ l.length ∧ i = .int .i64 j ∧ wi.ownsRow W.heap.size 3 1 (.slice (some ⟨W.heap.size, 0, none⟩) m m) m ((dRound (l.take j) (dRounds l (dist0 m k) q)).flatMap cInt) ∧ Below W.heap.size W wi) (fun i _ => l.length - (intOf i).toNat)
          case atStart => exact ⟨0, Nat.zero_le _, rfl, hown0, hbq⟩
          case round =>
            obtain ⟨j, hj, rfl, hown, hbi⟩ := hrel
            by_cases hltj : j < l.length
            · obtain ⟨t1, t2, t3, t4, t5, t6⟩ := HL.out _ (List.getElem_mem hltj) |> fun x => (⟨x.1.1, x.1.2, x.2.1.1, x.2.1.2, x.2.2.1, x.2.2.2⟩ : _ ∧ _ ∧ _ ∧ _ ∧ _ ∧ _)
              have hbd := Lib.hid (dist_way_bd (l := l) (fun t ht => by have := HL.out t ht; omega) hlen m k q j (by omega))
              have hnx := Lib.hid (dRound_snoc l (dRounds l (dist0 m k) q) hltj)
              have hdl := row_len hown
              obtain ⟨g, off, rfl, hg, hc'⟩ := (hW.below hbi).cell cLimb_len (by omega) hltj
              have c0 := hc' 0 _ rfl
              have c1 := hc' 1 _ rfl
              have c2 := hc' 2 _ rfl
              simp only [Nat.add_zero] at c0 c1 c2
              clear hc'
              obtain ⟨a, ea⟩ : ∃ a : Nat, l[j].1 = (a : Int) := ⟨l[j].1.toNat, by omega⟩
              obtain ⟨b, eb⟩ : ∃ b : Nat, l[j].2.1 = (b : Int) := ⟨l[j].2.1.toNat, by omega⟩
              rw [ea] at t1 t2 c0
              rw [eb] at t3 t4 c1
              have Ea := Lib.hid ea
              have Eb := Lib.hid eb
              clear ea eb
              have la : a < (dRound (l.take j) (dRounds l (dist0 m k) q)).length := by omega
              have lb : b < (dRound (l.take j) (dRounds l (dist0 m k) q)).length := by omega
              have Hab := Lib.hid (fun h1 h2 => dStep_ab (d := dRound (l.take j) (dRounds l (dist0 m k) q)) Ea.out Eb.out la lb (by omega) h1 h2)
              have Hba := Lib.hid (fun h1 h2 => dStep_ba (d := dRound (l.take j) (dRounds l (dist0 m k) q)) Ea.out Eb.out la lb h1 h2)
              have Hno := Lib.hid (fun h => dStep_no (d := dRound (l.take j) (dRounds l (dist0 m k) q)) Ea.out Eb.out la lb h)
              rw [← hnx.out] at Hab Hba Hno
              generalize l[j].2.2 = len at *
              have b0 := carry hbi b0w
              have b1 := carry hbi b1w
              have ka := row_cell hown (k := a) (by omega)
              have kb := row_cell hown (k := b) (by omega)
              have fa := hown.frozenAt a
              have fb := hown.frozenAt b
              have sa := fun x => row_stored (w := (wr.alloc (.cells #[.int .i64 (a : Int), .int .i64 (b : Int), .int .i64 len] 62)).drew) (own_below hown (by (repeat' (first | (with_reducible exact Below.refl _ _) | (with_reducible assumption) | (with_reducible refine Below.setCell ?_ (by first | omega | (simp; omega) | (simp; done)) _) | (with_reducible refine Below.alloc ?_ (by first | omega | (simp; omega) | (simp; done)) _) | (with_reducible refine Below.drew ?_) | (with_reducible refine below_drewN ?_ _))))) a x
              have sb := fun x => row_stored (w := (wr.alloc (.cells #[.int .i64 (a : Int), .int .i64 (b : Int), .int .i64 len] 62)).drew) (own_below hown (by (repeat' (first | (with_reducible exact Below.refl _ _) | (with_reducible assumption) | (with_reducible refine Below.setCell ?_ (by first | omega | (simp; omega) | (simp; done)) _) | (with_reducible refine Below.alloc ?_ (by first | omega | (simp; omega) | (simp; done)) _) | (with_reducible refine Below.drew ?_) | (with_reducible refine below_drewN ?_ _))))) b x
              have ba := hbd.out _ (List.getElem_mem la)
              have bb := hbd.out _ (List.getElem_mem lb)
              clear hdl hnx
              generalize (dRound (l.take j) (dRounds l (dist0 m k) q))[a] = da at *
              generalize (dRound (l.take j) (dRounds l (dist0 m k) q))[b] = db at *
              have Sa := Lib.hid sa
              have Sb := Lib.hid sb
              clear sa sb
              have hgi := (hown.lt W.heap.size rfl).2
              have am : a < m := by omega
              have bm : b < m := by omega
              have hn3 : ¬ wr.heap.size = W.heap.size := by omega
              have hn4 : ¬ W.heap.size = wr.heap.size := by omega
              go_upto_region 13 with (fail)
              have hbV : Below W.heap.size W (wr.alloc (.cells #[.int .i64 (a : Int), .int .i64 (b : Int), .int .i64 len] 62)) := by (repeat' (first | (with_reducible exact Below.refl _ _) | (with_reducible assumption) | (with_reducible refine Below.setCell ?_ (by first | omega | (simp; omega) | (simp; done)) _) | (with_reducible refine Below.alloc ?_ (by first | omega | (simp; omega) | (simp; done)) _) | (with_reducible refine Below.drew ?_) | (with_reducible refine below_drewN ?_ _)))
              have Ll : Loc (wr.alloc (.cells #[.int .i64 (a : Int), .int .i64 (b : Int), .int .i64 len] 62)) wr.heap.size [.int .i64 (a : Int), .int .i64 (b : Int), .int .i64 len] := Loc.new wr #[.int .i64 (a : Int), .int .i64 (b : Int), .int .i64 len] 62
              have hbv : Below wr.heap.size wr (wr.alloc (.cells #[.int .i64 (a : Int), .int .i64 (b : Int), .int .i64 len] 62)) := by (repeat' (first | (with_reducible exact Below.refl _ _) | (with_reducible assumption) | (with_reducible refine Below.setCell ?_ (by first | omega | (simp; omega) | (simp; done)) _) | (with_reducible refine Below.alloc ?_ (by first | omega | (simp; omega) | (simp; done)) _) | (with_reducible refine Below.drew ?_) | (with_reducible refine below_drewN ?_ _)))
              have hdr := Lib.hid (own_below hown hbv)
              replace ka := carry hbv ka
              replace kb := carry hbv kb
              replace fa := (hown.frozenAt a |> fun _ => (hdr.out).frozenAt a)
              replace fb := hdr.out.frozenAt b
              replace b0 := carry hbv b0
              replace b1 := carry hbv b1
              replace hgi : W.heap.size < (wr.alloc (.cells #[.int .i64 (a : Int), .int .i64 (b : Int), .int .i64 len] 62)).heap.size := by simp; omega
              have hzV := hbV.size
              clear hown c0 c1 c2 hbv
              generalize (wr.alloc (.cells #[.int .i64 (a : Int), .int .i64 (b : Int), .int .i64 len] 62)) = V at *
              have l0 := (Ll 0 _ rfl).1
              have l1 := (Ll 1 _ rfl).1
              have l2 := (Ll 2 _ rfl).1
              have hab : a = b → da = db := fun e => by subst e; have := ka.symm.trans kb; simpa using this
              by_cases hda : 0 ≤ da <;> by_cases hdb : 0 ≤ db
              · go_wp2_with fail
                go_roundw
                case rel => exact ⟨j + 1, by omega, by go_num, by rw [Hno.out (.inl ⟨hda, hdb⟩)]; exact hdr.out, by (repeat' (first | exact Below.refl _ _ | (refine Below.setCell ?_ (by first | omega | (simp; omega) | (simp; done)) _) | (refine Below.alloc ?_ (by first | omega | (simp; omega) | (simp; done)) _) | (refine Below.drew ?_) | (refine below_drewN ?_ _) | (refine Below.trans ?_ (Below.mono (by assumption) (by first | omega | (simp; omega) | (simp; done))))))⟩
                case measure => simp [intOf]; omega
              · have hda0 : da ≥ 0 := hda
                have hw := IntWalk.i64_in (da + len) (by omega)
                go_wp2_with fail
                go_still_tail 12, (by kernel_rfl)
                clear hw
                change wpList _ _ _ _ _ (World.drew V)
                have hge : 0 ≤ da + len := by omega
                have hab1 : ¬ a = b := fun e => by have := hab e; omega
                have hab2 : ¬ b = a := fun e => by have := hab e.symm; omega
                clear hab
                go_wp2_with fail
                go_roundw
                case rel => exact ⟨j + 1, by omega, by go_num, by rw [Hab.out hda (by omega)]; exact Sb.out _, by (repeat' (first | exact Below.refl _ _ | (refine Below.setCell ?_ (by first | omega | (simp; omega) | (simp; done)) _) | (refine Below.alloc ?_ (by first | omega | (simp; omega) | (simp; done)) _) | (refine Below.drew ?_) | (refine below_drewN ?_ _) | (refine Below.trans ?_ (Below.mono (by assumption) (by first | omega | (simp; omega) | (simp; done))))))⟩
                case measure => simp [intOf]; omega
              · have hdb0 : db ≥ 0 := hdb
                have hw := IntWalk.i64_in (db + len) (by omega)
                go_wp2_with fail
                go_still_tail 12, (by kernel_rfl)
                clear hw
                change wpList _ _ _ _ _ (World.drew V)
                go_wp2_with fail
                go_roundw
                case rel => exact ⟨j + 1, by omega, by go_num, by rw [Hba.out hdb (by omega)]; exact Sa.out _, by (repeat' (first | exact Below.refl _ _ | (refine Below.setCell ?_ (by first | omega | (simp; omega) | (simp; done)) _) | (refine Below.alloc ?_ (by first | omega | (simp; omega) | (simp; done)) _) | (refine Below.drew ?_) | (refine below_drewN ?_ _) | (refine Below.trans ?_ (Below.mono (by assumption) (by first | omega | (simp; omega) | (simp; done))))))⟩
                case measure => simp [intOf]; omega
              · go_wp2_with fail
                go_roundw
                case rel => exact ⟨j + 1, by omega, by go_num, by rw [Hno.out (.inr ⟨by omega, by omega⟩)]; exact hdr.out, by (repeat' (first | exact Below.refl _ _ | (refine Below.setCell ?_ (by first | omega | (simp; omega) | (simp; done)) _) | (refine Below.alloc ?_ (by first | omega | (simp; omega) | (simp; done)) _) | (refine Below.drew ?_) | (refine below_drewN ?_ _) | (refine Below.trans ?_ (Below.mono (by assumption) (by first | omega | (simp; omega) | (simp; done))))))⟩
                case measure => simp [intOf]; omega
            · obtain rfl : j = l.length := by omega
              rw [List.take_length] at hown
              go_wp2_with fail
              go_roundw
              case rel => exact ⟨q + 1, by omega, by go_num, hown, hbi⟩
              case measure => simp [intOf]; omega
        · obtain rfl : q = m := by omega
          go_wp2_with fail
          go_ret
          exact ⟨_, rfl, own_mono hown (by have := HzW.out; omega), Below.trans hbW (hbq.mono (by have := HzW.out; omega))⟩
end Go.Proofs.Ytomghkfkbpkbdaa

namespace Go.Proofs.Ytomghkfkbpkbdaa
open Go.RowKit

theorem limb_t {n L : Int} {t : RLimb} (e : n - 1 = L) (h1 : inB t.1 0 L = true) (h2 : inB t.2.1 0 L = true) (h3 : inB t.2.2 1 100 = true) : limbB n t = true := by rw [limbB, e, h1, h2, h3]; rfl
theorem limb_f1 {n L : Int} {t : RLimb} (e : n - 1 = L) (h : inB t.1 0 L = false) : limbB n t = false := by rw [limbB, e, h]; rfl
theorem limb_f2 {n L : Int} {t : RLimb} (e : n - 1 = L) (h : inB t.2.1 0 L = false) : limbB n t = false := by rw [limbB, e, h, Bool.and_false]; rfl
theorem limb_f3 {n : Int} {t : RLimb} (h : inB t.2.2 1 100 = false) : limbB n t = false := by rw [limbB, h, Bool.and_false]
theorem body_f1 {n : Int} {l : List RLimb} (h : inB n 1 12 = false) : bodyB n l = false := by rw [bodyB, h]; rfl
theorem body_f2 {n : Int} {l : List RLimb} (h : ¬ (l.length : Int) = n - 1) : bodyB n l = false := by rw [bodyB, decide_eq_false h, Bool.and_false]; rfl
theorem body_f3 {n : Int} {l : List RLimb} (h : l.all (limbB n) = false) : bodyB n l = false := by rw [bodyB, h]; simp
theorem body_f4 {n : Int} {l : List RLimb} (h : treeB l = false) : bodyB n l = false := by rw [bodyB, h]; simp
theorem body_t {n : Int} {l : List RLimb} (h1 : inB n 1 12 = true) (h2 : n - 1 = (l.length : Int)) (h3 : l.all (limbB n) = true) (h4 : treeB l = true) : bodyB n l = true := by
  rw [bodyB, h1, h3, h4, decide_eq_true h2.symm]; rfl
theorem body_eq {n : Int} {l : List RLimb} (h1 : inB n 1 12 = true) (h2 : n - 1 = (l.length : Int)) (h3 : l.all (limbB n) = true) : bodyB n l = treeB l := by
  rw [bodyB, h1, h3, decide_eq_true h2.symm]; simp
theorem tree_ne {l : List RLimb} {k : Nat} (hk : k < l.length) {a : Int} (h1 : l[k].1 = a) (h2 : l[k].2.1 = a) : treeB l = false := by
  cases h : treeB l
  · rfl
  · exact absurd (acyclic_ne _ _ h (limbE l[k]) (List.mem_map.2 ⟨_, List.getElem_mem hk, rfl⟩)) (fun hn => hn (by rw [limbE, h1, h2]))
theorem unknown_tree {n : Nat} {l : List RLimb} (hn : 0 < n) (hl : l.length + 1 = n) (hb : l.all (limbB n) = true) (hn12 : n ≤ 12) : (!decide (0 ≤ idxF (distF n l 0) (-1))) = treeB l := by
  have hd := dist_tree hn hl hb
  have hlen := distF_len n l 0
  have hbd : ∀ x ∈ distF n l 0, -1 ≤ x := fun x hx => by
    have hlb := limbs_of hb
    have := dist_way_bd (l := l) (fun t ht => by have := hlb t ht; omega) (by omega) n 0 n 0 hn12 x hx
    omega
  by_cases hm : (-1 : Int) ∈ distF n l 0
  · have h1 : treeB l ≠ true := fun ht => by
      obtain ⟨j, hj, e⟩ := List.getElem_of_mem hm
      have := hd.2 ht j (by omega)
      rw [dGet_at hj, e] at this
      omega
    rw [idxF_mem hm, decide_eq_true (by omega)]
    simp only [Bool.not_eq_true] at h1
    rw [h1]; rfl
  · have h1 : treeB l = true := hd.1 (fun j hj => by
      rw [dGet_at (by omega)]
      have h2 := hbd _ (List.getElem_mem (show j < (distF n l 0).length by omega))
      have h3 : (distF n l 0)[j]'(by omega) ≠ -1 := fun e => hm (by rw [← e]; exact List.getElem_mem _)
      omega)
    have h2 : idxF (distF n l 0) (-1) = -1 := idxF_none (List.all_eq_true.2 (fun x hx => by
      have h3 : x ≠ -1 := fun e => hm (by rw [← e]; exact hx)
      exact neB_t h3))
    rw [h1, h2]; rfl
theorem hasUnknown_any (v : Value) (l : List Int) (w : World) (h : RdL cInt 1 w v l) :
    Calls Try.prog 34 #[v] w fun e w' => e = .returned (.bool (decide (0 ≤ idxF l (-1)))) ∧ Below w.heap.size w w' := by
  have hcon := indexOf_any v l (-1) w h
  generalize idxF l (-1) = r at *
  go_enter Try.func34, Try.ntmps34
  go_wp2_with fail
  refine hcon.mono ?_
  rintro e w' ⟨rfl, rfl⟩
  go_wp2_with fail
  go_ret
  exact ⟨rfl, by (repeat' (first | exact Below.refl _ _ | (refine Below.setCell ?_ (by first | omega | (simp; omega) | (simp; done)) _) | (refine Below.alloc ?_ (by first | omega | (simp; omega) | (simp; done)) _) | (refine Below.drew ?_) | (refine below_drewN ?_ _) | (refine Below.trans ?_ (Below.mono (by assumption) (by first | omega | (simp; omega) | (simp; done))))))⟩
set_option maxHeartbeats 4000000 in
set_option maxRecDepth 100000 in
theorem implBodyOk_any (n : Int) (v : Value) (l : List RLimb) (w : World) (h : RdL cLimb 3 w v l) :
    Calls Try.prog 13 #[.agg #[.int .i64 n, v]] w fun e w' => e = .returned (.bool (bodyB n l)) ∧ Below w.heap.size w w' := by
  obtain ⟨A, c, rfl, h1, h2⟩ := h.form
  by_cases hlen : (l.length : Int) = n - 1
  · obtain ⟨m, rfl, hm⟩ : ∃ m : Nat, n = m ∧ l.length + 1 = m := ⟨l.length + 1, by omega, rfl⟩
    have Hm := Lib.hid hm
    have hm1 : (m : Int) - 1 = (l.length : Int) := by omega
    clear hlen hm
    go_enter Try.func13, Try.ntmps13
    go_wp2_with (go_at_call 33; refine two (within_any _ _ _ _) (fun hc => ?_) (fun hc => ?_))
    · have hmm := inB_iff.1 hc.out
      have hbW : Below w.heap.size w (w.alloc (.cells #[.int .i64 (m : Int), .slice A l.length c] 26)) := by (repeat' (first | (with_reducible exact Below.refl _ _) | (with_reducible assumption) | (with_reducible refine Below.setCell ?_ (by first | omega | (simp; omega) | (simp; done)) _) | (with_reducible refine Below.alloc ?_ (by first | omega | (simp; omega) | (simp; done)) _) | (with_reducible refine Below.drew ?_) | (with_reducible refine below_drewN ?_ _)))
      have Lb : Loc (w.alloc (.cells #[.int .i64 (m : Int), .slice A l.length c] 26)) w.heap.size [.int .i64 (m : Int), .slice A l.length c] := Loc.new w #[.int .i64 (m : Int), .slice A l.length c] 26
      have hwW : w.heap.size < (w.alloc (.cells #[.int .i64 (m : Int), .slice A l.length c] 26)).heap.size := by simp
      generalize w.alloc (.cells #[.int .i64 (m : Int), .slice A l.length c] 26) = W at *
      have hW : RdL cLimb 3 W (.slice A l.length c) l := h.below hbW
      have b0w := (Lb 0 _ rfl).1
      have b1w := (Lb 1 _ rfl).1
      go_loopw [21] (fun i wr => ∃ k : Nat, k ≤ l.length ∧ i = .int .i64 k ∧ Hid ((l.take k).all (limbB m) = true) ∧ Below W.heap.size W wr) (fun i _ => l.length - (intOf i).toNat)
      case atStart => exact ⟨0, Nat.zero_le _, rfl, by rfl, Below.refl _ _⟩
      case round =>
        obtain ⟨k, hk, rfl, hall, hb⟩ := hrel
        have hz := hb.size
        have b0 := carry hb b0w
        have b1 := carry hb b1w
        have hww : w.heap.size < wr.heap.size := by omega
        have hbo : Below w.heap.size w wr := Below.trans hbW (hb.mono (by omega))
        by_cases hlt : k < l.length
        · obtain ⟨g, off, rfl, hg, hc'⟩ := (hW.below hb).cell cLimb_len (by omega) hlt
          have k0 := hc' 0 _ rfl
          have k1 := hc' 1 _ rfl
          have k2 := hc' 2 _ rfl
          simp only [Nat.add_zero] at k0 k1 k2
          clear hc'
          by_cases hab : l[k].1 = l[k].2.1
          · have Hne := Lib.hid (tree_ne hlt hab rfl)
            rw [hab] at k0
            have Hab := Lib.hid hab
            clear hab
            go_wp2_with (go_at_call 33; refine two (within_any _ _ _ _) (fun hq => ?_) (fun hq => ?_))
            all_goals
              go_ret
              exact ⟨ret_bool (body_f4 Hne.out).symm, by (repeat' (first | (with_reducible exact Below.refl _ _) | (with_reducible assumption) | (with_reducible refine Below.setCell ?_ (by first | omega | (simp; omega) | (simp; done)) _) | (with_reducible refine Below.alloc ?_ (by first | omega | (simp; omega) | (simp; done)) _) | (with_reducible refine Below.drew ?_) | (with_reducible refine below_drewN ?_ _)))⟩
          · have Hall := Lib.hid (fun h => all_take_succ (p := limbB m) hlt hall.out h)
            have Hf := Lib.hid (fun h => all_false_at (p := limbB m) hlt h)
            have Ht := Lib.hid (fun h1 h2 h3 => limb_t (n := m) (t := l[k]'hlt) hm1 h1 h2 h3)
            have Hf1 := Lib.hid (fun h => limb_f1 (n := m) (t := l[k]'hlt) hm1 h)
            have Hf2 := Lib.hid (fun h => limb_f2 (n := m) (t := l[k]'hlt) hm1 h)
            have Hf3 := Lib.hid (fun h => limb_f3 (n := m) (t := l[k]'hlt) h)
            generalize l[k] = t at *
            obtain ⟨t1, t2, t3⟩ := t
            go_wp2_with (go_at_call 33; refine two (within_any _ _ _ _) (fun hq => ?_) (fun hq => ?_))
            · go_roundw
              case rel => exact ⟨k + 1, by omega, by go_num, Hall.out (Ht.out (by exact Hid.out (by assumption)) (by exact Hid.out (by assumption)) hq.out), by (repeat' (first | (with_reducible exact Below.refl _ _) | (with_reducible assumption) | (with_reducible refine Below.setCell ?_ (by first | omega | (simp; omega) | (simp; done)) _) | (with_reducible refine Below.alloc ?_ (by first | omega | (simp; omega) | (simp; done)) _) | (with_reducible refine Below.drew ?_) | (with_reducible refine below_drewN ?_ _)))⟩
              case measure => simp [intOf]; omega
            all_goals
              go_ret
              exact ⟨ret_bool (body_f3 (Hf.out (by first | exact Hf1.out hq.out | exact Hf2.out hq.out | exact Hf3.out hq.out))).symm, by (repeat' (first | (with_reducible exact Below.refl _ _) | (with_reducible assumption) | (with_reducible refine Below.setCell ?_ (by first | omega | (simp; omega) | (simp; done)) _) | (with_reducible refine Below.alloc ?_ (by first | omega | (simp; omega) | (simp; done)) _) | (with_reducible refine Below.drew ?_) | (with_reducible refine below_drewN ?_ _)))⟩
        · obtain rfl : k = l.length := by omega
          have ha := all_take_end hlt hall.out
          have hcon := distances_any m _ l 0 wr (hW.below hb) (by omega) (by omega) ha (by omega)
          have hfin := unknown_tree (by omega) Hm.out ha (by omega)
          have Hfin := Lib.hid hfin
          have Ha := Lib.hid ha
          clear ha hfin
          go_wp2_with fail
          refine hcon.mono ?_
          rintro e w2 ⟨v2, rfl, hown, hb2⟩
          have hul := hasUnknown_any v2 (distF m l 0) w2 (by have hdl := distF_len m l 0; unfold RdL; rw [hdl]; exact RdS.of_own hown)
          go_wp2_with fail
          refine hul.mono ?_
          rintro e w3 ⟨rfl, hb3⟩
          go_wp2_with fail
          go_ret
          exact ⟨ret_bool (Hfin.out.trans (body_eq hc.out hm1 Ha.out).symm), bl_trans (bl_trans hbo hb2) hb3⟩
    · go_ret
      exact ⟨ret_bool (body_f1 hc.out).symm, by (repeat' (first | exact Below.refl _ _ | (refine Below.setCell ?_ (by first | omega | (simp; omega) | (simp; done)) _) | (refine Below.alloc ?_ (by first | omega | (simp; omega) | (simp; done)) _) | (refine Below.drew ?_) | (refine below_drewN ?_ _) | (refine Below.trans ?_ (Below.mono (by assumption) (by first | omega | (simp; omega) | (simp; done))))))⟩
  · go_enter Try.func13, Try.ntmps13
    go_wp2_with (go_at_call 33; refine twoI (within_any _ _ _ _) (fun hc hm hm' => ?_) (fun hc => ?_))
    all_goals
      go_ret
      exact ⟨ret_bool (body_f2 hlen).symm, by (repeat' (first | exact Below.refl _ _ | (refine Below.setCell ?_ (by first | omega | (simp; omega) | (simp; done)) _) | (refine Below.alloc ?_ (by first | omega | (simp; omega) | (simp; done)) _) | (refine Below.drew ?_) | (refine below_drewN ?_ _) | (refine Below.trans ?_ (Below.mono (by assumption) (by first | omega | (simp; omega) | (simp; done))))))⟩
set_option maxHeartbeats 1000000 in
set_option maxRecDepth 100000 in
theorem isJoint_any (n j : Int) (v : Value) (l : List RLimb) (w : World) (h : RdL cLimb 3 w v l) :
    Calls Try.prog 31 #[.agg #[.int .i64 n, v], .int .i64 j] w fun e w' => e = .returned (.bool (bodyB n l && inB j 0 (n - 1))) ∧ Below w.heap.size w w' := by
  obtain ⟨A, c, rfl, h1, h2⟩ := h.form
  have hcon := implBodyOk_any n _ l _ (h.below (w' := w.alloc (.cells #[.int .i64 n, .slice A l.length c] 26)) (by (repeat' (first | (with_reducible exact Below.refl _ _) | (with_reducible assumption) | (with_reducible refine Below.setCell ?_ (by first | omega | (simp; omega) | (simp; done)) _) | (with_reducible refine Below.alloc ?_ (by first | omega | (simp; omega) | (simp; done)) _) | (with_reducible refine Below.drew ?_) | (with_reducible refine below_drewN ?_ _)))))
  cases hv : bodyB n l
  · have Hv := Lib.hid hv
    rw [hv] at hcon
    clear hv
    go_enter Try.func31, Try.ntmps31
    go_wp2_with fail
    refine hcon.mono ?_
    rintro e w1 ⟨rfl, hb1⟩
    go_wp2_with fail
    go_ret
    exact ⟨ret_bool (by simp), bl_alloc hb1⟩
  · have Hv := Lib.hid hv
    rw [hv] at hcon
    have hn : 1 ≤ n ∧ n ≤ 12 := by rw [bodyB, Bool.and_eq_true, Bool.and_eq_true] at hv; exact inB_iff.1 hv.1.1
    clear hv
    go_enter Try.func31, Try.ntmps31
    go_wp2_with fail
    refine hcon.mono ?_
    rintro e w1 ⟨rfl, hb1⟩
    have k0 := carry (b := w.heap.size) (o := 0) (v := .int .i64 n) hb1 (by simp [go_sem])
    go_wp2_with (go_at_call 33; refine two (within_any _ _ _ _) (fun hq => ?_) (fun hq => ?_))
    all_goals
      go_ret
      exact ⟨ret_bool (by rw [hq.out]; rfl), bl_alloc hb1⟩
/- parts: the labels as a row -/
def rowN (n : Nat) (p : Nat → Nat) : List Int := (List.range n).map (fun j => ((p j : Nat) : Int))
theorem rowN_len (n : Nat) (p : Nat → Nat) : (rowN n p).length = n := by simp [rowN]
theorem rowN_get {n : Nat} {p : Nat → Nat} {j : Nat} (h : j < (rowN n p).length) : (rowN n p)[j] = ((p j : Nat) : Int) := by simp [rowN]
theorem rowN_set {n : Nat} {p : Nat → Nat} {i x : Nat} : (rowN n p).set i (x : Int) = rowN n (fun j => if j = i then x else p j) := by
  apply List.ext_getElem
  · simp [rowN]
  · intro j h1 h2
    rw [List.getElem_set, rowN_get, rowN_get]
    by_cases e : i = j
    · subst e; simp
    · rw [if_neg e, if_neg (fun h => e h.symm)]
theorem rowN_congr {n : Nat} {p q : Nat → Nat} (h : ∀ j, j < n → p j = q j) : rowN n p = rowN n q := by
  apply List.ext_getElem
  · simp [rowN]
  · intro j h1 h2
    rw [rowN_get, rowN_get, h j (by rw [rowN_len] at h1; exact h1)]
theorem rowN_zero (n : Nat) : List.replicate n (0 : Int) = rowN n (fun j => if j < 0 then j else 0) := by
  apply List.ext_getElem
  · simp [rowN]
  · intro j h1 h2
    rw [rowN_get, List.getElem_replicate]; rfl
theorem rowN_fill (n m : Nat) : (rowN n (fun j => if j < m then j else 0)).set m (m : Int) = rowN n (fun j => if j < m + 1 then j else 0) := by
  rw [rowN_set]
  refine rowN_congr (fun j _ => ?_)
  by_cases e : j = m
  · subst e; simp
  · rw [if_neg e]
    by_cases h : j < m
    · rw [if_pos h, if_pos (by omega)]
    · rw [if_neg h, if_neg (by omega)]
theorem rowN_full (n : Nat) : rowN n (fun j => if j < n then j else 0) = rowN n id := rowN_congr (fun j h => by simp [h])
def pF (l : List RLimb) (k : Nat) : Nat → Nat := uniFold ((l.take k).map limbE) id
theorem pF_zero (l : List RLimb) : pF l 0 = id := rfl
theorem pF_succ {l : List RLimb} {k : Nat} (hk : k < l.length) : pF l (k + 1) = uniStep (pF l k) (limbE l[k]) := by
  unfold pF uniFold
  rw [take_snoc_l l hk, List.map_append, List.foldl_append]; rfl
def treeAt (l : List RLimb) (k : Nat) : Bool := acyclic ((l.drop k).map limbE) (pF l k)
theorem treeAt_zero (l : List RLimb) : treeB l = treeAt l 0 := rfl
theorem treeAt_step {l : List RLimb} {k : Nat} (hk : k < l.length) : treeAt l k = (!(pF l k (limbE l[k]).1 == pF l k (limbE l[k]).2) && treeAt l (k + 1)) := by
  unfold treeAt
  rw [List.drop_eq_getElem_cons hk, List.map_cons, acyclic, pF_succ hk]
theorem treeAt_end (l : List RLimb) : treeAt l l.length = true := by unfold treeAt; rw [List.drop_length]; rfl
/-- the relabelling on its way -/
def midN (p : Nat → Nat) (x y i : Nat) : Nat → Nat := fun j => if j < i then (if p j = y then x else p j) else p j
theorem midN_zero (p : Nat → Nat) (x y : Nat) : midN p x y 0 = p := by funext j; simp [midN]
theorem midN_at (p : Nat → Nat) (x y i : Nat) : midN p x y i i = p i := by simp [midN]
theorem midN_t {n : Nat} {p : Nat → Nat} {x y i : Nat} (h : p i = y) : (rowN n (midN p x y i)).set i (x : Int) = rowN n (midN p x y (i + 1)) := by
  rw [rowN_set]
  refine rowN_congr (fun j _ => ?_)
  unfold midN
  by_cases e : j = i
  · subst e; simp [h]
  · rw [if_neg e]
    by_cases h1 : j < i
    · simp [h1, show j < i + 1 by omega]
    · simp [h1, show ¬ j < i + 1 by omega]
theorem midN_f {n : Nat} {p : Nat → Nat} {x y i : Nat} (h : p i ≠ y) : rowN n (midN p x y i) = rowN n (midN p x y (i + 1)) := by
  refine rowN_congr (fun j _ => ?_)
  unfold midN
  by_cases e : j = i
  · subst e; simp [h]
  · by_cases h1 : j < i
    · simp [h1, show j < i + 1 by omega]
    · simp [h1, show ¬ j < i + 1 by omega]
theorem midN_end {n : Nat} {p : Nat → Nat} {e : Edge} : rowN n (midN p (p e.1) (p e.2) n) = rowN n (uniStep p e) := by
  refine rowN_congr (fun j h => ?_)
  unfold midN uniStep relabel
  rw [if_pos h]
end Go.Proofs.Ytomghkfkbpkbdaa

namespace Go.Proofs.Ytomghkfkbpkbdaa
open Go.RowKit
theorem one {P : Program} {f : FuncId} {args : Array Value} {w : World} {n a b : Int} {R : Ending → World → Prop}
    (h : Calls P f args w fun e w' => e = .returned (.bool (inB n a b)) ∧ w = w') (hv : inB n a b = true) (k : R (.returned (.bool true)) w) : Calls P f args w R := by
  rw [hv] at h
  refine h.mono ?_
  rintro e w' ⟨rfl, rfl⟩
  exact k
theorem limb_parts {n L : Int} {t : RLimb} (e : n - 1 = L) (h : limbB n t = true) : inB t.1 0 L = true ∧ inB t.2.1 0 L = true ∧ inB t.2.2 1 100 = true := by
  rw [limbB, e, Bool.and_eq_true, Bool.and_eq_true] at h
  exact ⟨h.1.1, h.1.2, h.2⟩
set_option maxHeartbeats 8000000 in
set_option maxRecDepth 100000 in
theorem specBodyOk_any (n : Int) (v : Value) (l : List RLimb) (w : World) (h : RdL cLimb 3 w v l) :
    Calls Try.prog 78 #[.agg #[.int .i64 n, v]] w fun e w' => e = .returned (.bool (bodyB n l)) ∧ Below w.heap.size w w' := by
  obtain ⟨A, c, rfl, h1, h2⟩ := h.form
  obtain ⟨i0, hi0, hz0, hz1, hz2⟩ := info_parts infoInt
  by_cases hlen : (l.length : Int) = n - 1
  · obtain ⟨m, rfl, hm⟩ : ∃ m : Nat, n = m ∧ l.length + 1 = m := ⟨l.length + 1, by omega, rfl⟩
    have Hm := Lib.hid hm
    have hm1 : (m : Int) - 1 = (l.length : Int) := by omega
    clear hlen hm
    go_enter Try.func78, Try.ntmps78
    go_upto_region 1 with (fail)
    have hbW : Below w.heap.size w (w.alloc (.cells #[.int .i64 (m : Int), .slice A l.length c] 26)) := by (repeat' (first | (with_reducible exact Below.refl _ _) | (with_reducible assumption) | (with_reducible refine Below.setCell ?_ (by first | omega | (simp; omega) | (simp; done)) _) | (with_reducible refine Below.alloc ?_ (by first | omega | (simp; omega) | (simp; done)) _) | (with_reducible refine Below.drew ?_) | (with_reducible refine below_drewN ?_ _)))
    have Lb : Loc (w.alloc (.cells #[.int .i64 (m : Int), .slice A l.length c] 26)) w.heap.size [.int .i64 (m : Int), .slice A l.length c] := Loc.new w #[.int .i64 (m : Int), .slice A l.length c] 26
    have hwW : w.heap.size < (w.alloc (.cells #[.int .i64 (m : Int), .slice A l.length c] 26)).heap.size := by simp
    generalize w.alloc (.cells #[.int .i64 (m : Int), .slice A l.length c] 26) = W at *
    have hW : RdL cLimb 3 W (.slice A l.length c) l := h.below hbW
    have b0w := (Lb 0 _ rfl).1
    have b1w := (Lb 1 _ rfl).1
    have hn1 : ¬ w.heap.size = W.heap.size := by omega
    have hn2 : ¬ W.heap.size = w.heap.size := by omega
    go_wp2_with (first
      | (go_at_call 70; refine twoI (l01In_any _ _ _ _) (fun hc hm hm' => ?_) (fun hc => ?_))
      | (at_make; refine wpList_make_full _ rfl _ _ _ rfl W.heap.size 3 i0 _ 1 Try.underlying28 hi0 hz0 hz1 _ _ _ _ m rfl rfl rfl rfl (by rw [hz2]; omega) (by simp [maxLen]; omega) (Nat.le_refl _) ?_; intro w2 hown hgr))
    · have hb2 : Below W.heap.size W w2 := Below.grown (Below.refl _ _) hgr (by omega) (by simp)
      rw [Nat.mul_one, row_made, rowN_zero] at hown
      have hg0 := hown.lt W.heap.size rfl
      go_loopw [4] (fun i wr => ∃ k : Nat, k ≤ m ∧ i = .int .i64 k ∧ wr.ownsRow W.heap.size 3 1 (.slice (some ⟨W.heap.size, 0, none⟩) m m) m ((rowN m (fun j => if j < k then j else 0)).flatMap cInt) ∧ Below W.heap.size W wr) (fun i _ => m - (intOf i).toNat)
      case atStart => exact ⟨0, Nat.zero_le _, rfl, hown, hb2⟩
      case round =>
        obtain ⟨k, hk, rfl, hown, hbr⟩ := hrel
        have hzr := hbr.size
        have b0 := carry hbr b0w
        have b1 := carry hbr b1w
        have hlf := rowN_len m (fun j => if j < k then j else 0)
        by_cases hlt : k < m
        · have hst := row_stored hown k k
          rw [rowN_fill] at hst
          have k3 := row_cell hown (k := k) (by omega)
          have f3 := hown.frozenAt k
          go_wp2_with fail
          go_roundw
          case rel => exact ⟨k + 1, by omega, by go_num, hst, by (repeat' (first | exact Below.refl _ _ | (refine Below.setCell ?_ (by first | omega | (simp; omega) | (simp; done)) _) | (refine Below.alloc ?_ (by first | omega | (simp; omega) | (simp; done)) _) | (refine Below.drew ?_) | (refine below_drewN ?_ _) | (refine Below.trans ?_ (Below.mono (by assumption) (by first | omega | (simp; omega) | (simp; done))))))⟩
          case measure => simp [intOf]; omega
        · obtain rfl : k = m := by omega
          rw [rowN_full] at hown
          clear hlf
          go_wp2_with fail
          clear hgr hb2 hg0 b0 b1
          go_loopw [5] (fun i wr => ∃ q : Nat, q ≤ l.length ∧ i = .int .i64 q ∧ Hid ((l.take q).all (limbB k) = true) ∧ Hid (treeB l = treeAt l q) ∧ wr.ownsRow W.heap.size 3 1 (.slice (some ⟨W.heap.size, 0, none⟩) k k) k ((rowN k (pF l q)).flatMap cInt) ∧ Below W.heap.size W wr) (fun i _ => l.length - (intOf i).toNat)
          case atStart => exact ⟨0, Nat.zero_le _, rfl, by rfl, by rfl, hown, hbr⟩
          case round =>
            obtain ⟨q, hq, rfl, hall, htr, hown, hb⟩ := hrel
            have hz := hb.size
            have b0 := carry hb b0w
            have b1 := carry hb b1w
            have hww : w.heap.size < wr.heap.size := by omega
            have hbo : Below w.heap.size w wr := Below.trans hbW (hb.mono (by omega))
            by_cases hltq : q < l.length
            · obtain ⟨g, off, rfl, hg, hc'⟩ := (hW.below hb).cell cLimb_len (by omega) hltq
              have k0 := hc' 0 _ rfl
              have k1 := hc' 1 _ rfl
              have k2 := hc' 2 _ rfl
              simp only [Nat.add_zero] at k0 k1 k2
              clear hc'
              have Hall := Lib.hid (fun h => all_take_succ (p := limbB k) hltq hall.out h)
              have Hf := Lib.hid (fun h => all_false_at (p := limbB k) hltq h)
              have Ht := Lib.hid (fun h1 h2 h3 => limb_t (n := k) (t := l[q]'hltq) hm1 h1 h2 h3)
              have Hf1 := Lib.hid (fun h => limb_f1 (n := k) (t := l[q]'hltq) hm1 h)
              have Hf2 := Lib.hid (fun h => limb_f2 (n := k) (t := l[q]'hltq) hm1 h)
              have Hf3 := Lib.hid (fun h => limb_f3 (n := k) (t := l[q]'hltq) h)
              have Hst := Lib.hid (treeAt_step hltq)
              have Hps := Lib.hid (pF_succ hltq)
              by_cases hok : limbB k l[q] = true
              · obtain ⟨hA, hB, hC⟩ := limb_parts hm1 hok
                have hA' := inB_iff.1 hA
                have hB' := inB_iff.1 hB
                obtain ⟨a, ea⟩ : ∃ a : Nat, l[q].1 = (a : Int) := ⟨l[q].1.toNat, by omega⟩
                obtain ⟨b, eb⟩ : ∃ b : Nat, l[q].2.1 = (b : Int) := ⟨l[q].2.1.toNat, by omega⟩
                rw [ea] at k0 hA hA'
                rw [eb] at k1 hB hB'
                have hst := Hst.out
                have hps := Hps.out
                rw [show (limbE l[q]).1 = a by rw [limbE, ea]; rfl, show (limbE l[q]).2 = b by rw [limbE, eb]; rfl] at hst
                rw [show limbE l[q] = (a, b) by rw [limbE, ea, eb]; rfl] at hps
                have Hok := Lib.hid (Hall.out hok)
                have HA := Lib.hid hA
                have HB := Lib.hid hB
                have HC := Lib.hid hC
                have HS := Lib.hid hst
                have HP := Lib.hid hps
                clear hst hps hA hB hC hok ea eb Hall Hf Ht Hf1 Hf2 Hf3 Hst Hps
                generalize l[q].2.2 = len at *
                have ak : a < k := by omega
                have bk : b < k := by omega
                have ka := row_cell hown (k := a) (by rw [rowN_len]; exact ak)
                have kb := row_cell hown (k := b) (by rw [rowN_len]; exact bk)
                rw [rowN_get] at ka kb
                have hn3 : ¬ wr.heap.size = W.heap.size := by have := (hown.lt W.heap.size rfl).2; omega
                have hn4 : ¬ W.heap.size = wr.heap.size := fun e => hn3 e.symm
                have hwg : W.heap.size < wr.heap.size := (hown.lt W.heap.size rfl).2
                by_cases hxy : pF l q a = pF l q b
                · have Hxy := Lib.hid hxy
                  rw [hxy] at ka
                  clear hxy
                  generalize pF l q b = y at *
                  go_wp2_with (go_at_call 70; refine one (l01In_any _ _ _ _) (by first | exact HA.out | exact HB.out | exact HC.out) ?_)
                  go_ret
                  exact ⟨ret_bool (body_f4 (htr.out.trans (HS.out.trans (by rw [Hxy.out]; simp)))).symm, by (repeat' (first | (with_reducible exact Below.refl _ _) | (with_reducible assumption) | (with_reducible refine Below.setCell ?_ (by first | omega | (simp; omega) | (simp; done)) _) | (with_reducible refine Below.alloc ?_ (by first | omega | (simp; omega) | (simp; done)) _) | (with_reducible refine Below.drew ?_) | (with_reducible refine below_drewN ?_ _)))⟩
                · have Hxy := Lib.hid hxy
                  obtain ⟨x, hx⟩ : ∃ x, pF l q a = x := ⟨_, rfl⟩
                  obtain ⟨y, hy⟩ : ∃ y, pF l q b = y := ⟨_, rfl⟩
                  have Hx := Lib.hid hx
                  have Hy := Lib.hid hy
                  rw [hx, hy] at hxy
                  rw [hx] at ka
                  rw [hy] at kb
                  clear hx hy
                  have hown0 : wr.ownsRow W.heap.size 3 1 (.slice (some ⟨W.heap.size, 0, none⟩) k k) k ((rowN k (midN (pF l q) x y 0)).flatMap cInt) := by rw [midN_zero]; exact hown
                  clear hown
                  go_wp2_with (go_at_call 70; refine one (l01In_any _ _ _ _) (by first | exact HA.out | exact HB.out | exact HC.out) ?_)
                  go_loopw [9] (fun i wr => ∃ p : Nat, p ≤ k ∧ i = .int .i64 p ∧ wr.ownsRow W.heap.size 3 1 (.slice (some ⟨W.heap.size, 0, none⟩) k k) k ((rowN k (midN (pF l q) x y p)).flatMap cInt) ∧ Below W.heap.size W wr) (fun i _ => k - (intOf i).toNat)
                  case atStart => exact ⟨0, Nat.zero_le _, rfl, own_below hown0 (by (repeat' (first | (with_reducible exact Below.refl _ _) | (with_reducible assumption) | (with_reducible refine Below.setCell ?_ (by first | omega | (simp; omega) | (simp; done)) _) | (with_reducible refine Below.alloc ?_ (by first | omega | (simp; omega) | (simp; done)) _) | (with_reducible refine Below.drew ?_) | (with_reducible refine below_drewN ?_ _)))), by (repeat' (first | (with_reducible exact Below.refl _ _) | (with_reducible assumption) | (with_reducible refine Below.setCell ?_ (by first | omega | (simp; omega) | (simp; done)) _) | (with_reducible refine Below.alloc ?_ (by first | omega | (simp; omega) | (simp; done)) _) | (with_reducible refine Below.drew ?_) | (with_reducible refine below_drewN ?_ _)))⟩
                  case round =>
                    obtain ⟨p, hp, rfl, hown, hbi⟩ := hrel
                    have hzi := hbi.size
                    have b0 := carry hbi b0w
                    have b1 := carry hbi b1w
                    by_cases hltp : p < k
                    · have kp := row_cell hown (k := p) (by rw [rowN_len]; exact hltp)
                      rw [rowN_get, midN_at] at kp
                      have hgp := (hown.lt W.heap.size rfl).2
                      by_cases hpy : pF l q p = y
                      · have hst := row_stored hown p x
                        rw [midN_t hpy] at hst
                        rw [hpy] at kp
                        have f3 := hown.frozenAt p
                        clear hpy hxy
                        go_wp2_with fail
                        go_roundw
                        case rel => exact ⟨p + 1, by omega, by go_num, hst, by (repeat' (first | exact Below.refl _ _ | (refine Below.setCell ?_ (by first | omega | (simp; omega) | (simp; done)) _) | (refine Below.alloc ?_ (by first | omega | (simp; omega) | (simp; done)) _) | (refine Below.drew ?_) | (refine below_drewN ?_ _) | (refine Below.trans ?_ (Below.mono (by assumption) (by first | omega | (simp; omega) | (simp; done))))))⟩
                        case measure => simp [intOf]; omega
                      · rw [midN_f hpy] at hown
                        generalize pF l q p = z at *
                        have hzy : ¬ (z : Int) = (y : Int) := by omega
                        clear hxy
                        go_wp2_with fail
                        go_roundw
                        case rel => exact ⟨p + 1, by omega, by go_num, hown, by (repeat' (first | exact Below.refl _ _ | (refine Below.setCell ?_ (by first | omega | (simp; omega) | (simp; done)) _) | (refine Below.alloc ?_ (by first | omega | (simp; omega) | (simp; done)) _) | (refine Below.drew ?_) | (refine below_drewN ?_ _) | (refine Below.trans ?_ (Below.mono (by assumption) (by first | omega | (simp; omega) | (simp; done))))))⟩
                        case measure => simp [intOf]; omega
                    · obtain rfl : p = k := by omega
                      have hown1 : ∀ (e : Edge), e = (a, b) → rowN p (midN (pF l q) x y p) = rowN p (uniStep (pF l q) e) := by
                        rintro e rfl
                        rw [← Hx.out, ← Hy.out]; exact midN_end (e := (a, b))
                      rw [hown1 _ rfl, ← HP.out] at hown
                      clear hown1
                      go_wp2_with fail
                      go_roundw
                      case rel => exact ⟨q + 1, by omega, by go_num, Hok.out, htr.out.trans (HS.out.trans (by rw [beq_eq_false_iff_ne.2 Hxy.out]; rfl)), hown, hbi⟩
                      case measure => simp [intOf]; omega
              · have Hok := Lib.hid hok
                clear hok
                generalize l[q] = t at *
                obtain ⟨t1, t2, t3⟩ := t
                go_wp2_with (go_at_call 70; refine twoI (l01In_any _ _ _ _) (fun hq hq1 hq2 => ?_) (fun hq => ?_))
                all_goals first
                  | exact absurd (Ht.out (by exact Hid.out (by assumption)) (by exact Hid.out (by assumption)) hq.out) Hok.out
                  | (go_ret
                     exact ⟨ret_bool (body_f3 (Hf.out (by first | exact Hf1.out hq.out | exact Hf2.out hq.out | exact Hf3.out hq.out))).symm, by (repeat' (first | (with_reducible exact Below.refl _ _) | (with_reducible assumption) | (with_reducible refine Below.setCell ?_ (by first | omega | (simp; omega) | (simp; done)) _) | (with_reducible refine Below.alloc ?_ (by first | omega | (simp; omega) | (simp; done)) _) | (with_reducible refine Below.drew ?_) | (with_reducible refine below_drewN ?_ _)))⟩)
            · obtain rfl : q = l.length := by omega
              have Ha := Lib.hid (all_take_end hltq hall.out)
              go_wp2_with fail
              go_ret
              exact ⟨ret_bool ((body_eq hc.out hm1 Ha.out).trans (htr.out.trans (treeAt_end l))).symm, hbo⟩
    · go_ret
      exact ⟨ret_bool (body_f1 hc.out).symm, by (repeat' (first | (with_reducible exact Below.refl _ _) | (with_reducible assumption) | (with_reducible refine Below.setCell ?_ (by first | omega | (simp; omega) | (simp; done)) _) | (with_reducible refine Below.alloc ?_ (by first | omega | (simp; omega) | (simp; done)) _) | (with_reducible refine Below.drew ?_) | (with_reducible refine below_drewN ?_ _)))⟩
  · go_enter Try.func78, Try.ntmps78
    go_wp2_with (go_at_call 70; refine twoI (l01In_any _ _ _ _) (fun hc hm hm' => ?_) (fun hc => ?_))
    all_goals
      go_ret
      exact ⟨ret_bool (body_f2 hlen).symm, by (repeat' (first | exact Below.refl _ _ | (refine Below.setCell ?_ (by first | omega | (simp; omega) | (simp; done)) _) | (refine Below.alloc ?_ (by first | omega | (simp; omega) | (simp; done)) _) | (refine Below.drew ?_) | (refine below_drewN ?_ _) | (refine Below.trans ?_ (Below.mono (by assumption) (by first | omega | (simp; omega) | (simp; done))))))⟩
end Go.Proofs.Ytomghkfkbpkbdaa

namespace Go.Proofs.Ytomghkfkbpkbdaa
open Go.RowKit
def touchB (t : RLimb) (j : Int) : Bool := decide (t.1 = j) || decide (t.2.1 = j)
def limbsTo (l : List RLimb) (j : Int) (m : Nat) : List Int := ((List.range m).filter (fun k => touchB (l.getD k (0, 0, 0)) j)).map (fun k : Nat => (k : Int))
def degF (l : List RLimb) (j : Int) : Nat := l.countP (fun t => touchB t j)
theorem getD_limb {l : List RLimb} {m : Nat} (h : m < l.length) : l.getD m (0, 0, 0) = l[m] := by rw [List.getD_eq_getElem?_getD, List.getElem?_eq_getElem h]; rfl
theorem limbsTo_t {l : List RLimb} {j : Int} {m : Nat} (h : m < l.length) (ht : touchB l[m] j = true) : limbsTo l j (m + 1) = limbsTo l j m ++ [(m : Int)] := by
  have e : touchB (l.getD m (0, 0, 0)) j = true := by rw [getD_limb h]; exact ht
  unfold limbsTo
  rw [List.range_succ, List.filter_append, List.map_append]
  congr 1
  rw [List.filter_cons, if_pos e, List.filter_nil]; rfl
theorem limbsTo_f {l : List RLimb} {j : Int} {m : Nat} (h : m < l.length) (ht : touchB l[m] j = false) : limbsTo l j (m + 1) = limbsTo l j m := by
  have e : ¬ touchB (l.getD m (0, 0, 0)) j = true := by rw [getD_limb h, ht]; simp
  unfold limbsTo
  rw [List.range_succ, List.filter_append, List.map_append, List.filter_cons, if_neg e, List.filter_nil, List.map_nil, List.append_nil]
theorem limbsTo_le (l : List RLimb) (j : Int) (m : Nat) : (limbsTo l j m).length ≤ m := by
  unfold limbsTo; rw [List.length_map]; exact Nat.le_trans (List.length_filter_le _ _) (by simp)
theorem degF_snoc (l : List RLimb) (t : RLimb) (j : Int) : degF (l ++ [t]) j = degF l j + (if touchB t j = true then 1 else 0) := by unfold degF; rw [List.countP_append, List.countP_cons, List.countP_nil, Nat.zero_add]
theorem limbsTo_len (l : List RLimb) (j : Int) (m : Nat) (h : m ≤ l.length) : (limbsTo l j m).length = degF (l.take m) j := by
  induction m with
  | zero => rfl
  | succ m ih =>
    have hm : m < l.length := by omega
    rw [take_snoc_l l hm, degF_snoc]
    by_cases ht : touchB l[m] j = true
    · rw [limbsTo_t hm ht, if_pos ht, List.length_append, ih (by omega)]; rfl
    · rw [limbsTo_f hm (by simpa using ht), if_neg ht, ih (by omega)]; rfl
theorem limbsTo_deg (l : List RLimb) (j : Int) : (limbsTo l j l.length).length = degF l j := by rw [limbsTo_len l j _ (Nat.le_refl _), List.take_length]
def endB (l : List RLimb) (j : Nat) : Bool := decide (degF l j ≤ 1)
def endsTo (l : List RLimb) (m : Nat) : List Int := ((List.range m).filter (endB l)).map (fun j : Nat => (j : Int))
theorem endsTo_t {l : List RLimb} {m : Nat} (h : degF l m ≤ 1) : endsTo l (m + 1) = endsTo l m ++ [(m : Int)] := by
  unfold endsTo; rw [List.range_succ, List.filter_append, List.map_append]; simp [endB, h]
theorem endsTo_f {l : List RLimb} {m : Nat} (h : ¬ degF l m ≤ 1) : endsTo l (m + 1) = endsTo l m := by
  unfold endsTo; rw [List.range_succ, List.filter_append, List.map_append]; simp [endB, h]
theorem endsTo_le (l : List RLimb) (m : Nat) : (endsTo l m).length ≤ m := by
  unfold endsTo; rw [List.length_map]; exact Nat.le_trans (List.length_filter_le _ _) (by simp)
theorem endsTo_mem {l : List RLimb} {n j : Nat} (h : j < n) : (j : Int) ∈ endsTo l n ↔ degF l j ≤ 1 := by
  unfold endsTo
  rw [List.mem_map]
  constructor
  · rintro ⟨i, hi, e⟩
    have : i = j := by omega
    subst this
    have := (List.mem_filter.1 hi).2
    simpa [endB] using this
  · intro hd
    exact ⟨j, List.mem_filter.2 ⟨List.mem_range.2 h, by simp [endB, hd]⟩, rfl⟩
def lenF (l : List RLimb) : Int := l.foldl (fun s t => s + t.2.2) 0
theorem lenF_succ (l : List RLimb) {k : Nat} (h : k < l.length) : lenF (l.take (k + 1)) = lenF (l.take k) + l[k].2.2 := foldl_take_succ _ _ l h
theorem lenF_snoc (l : List RLimb) (t : RLimb) : lenF (l ++ [t]) = lenF l + t.2.2 := by unfold lenF; rw [List.foldl_append]; rfl
theorem lenF_bd {l : List RLimb} (h : ∀ t ∈ l, 1 ≤ t.2.2 ∧ t.2.2 ≤ 100) (k : Nat) (hk : k ≤ l.length) : (k : Int) ≤ lenF (l.take k) ∧ lenF (l.take k) ≤ 100 * k := by
  induction k with
  | zero => exact ⟨Int.le_refl _, Int.le_refl _⟩
  | succ k ih =>
    have := ih (by omega)
    have := h _ (List.getElem_mem (show k < l.length by omega))
    rw [lenF_succ l (by omega)]
    omega
/- degrees of a tree -/
def degTo (l : List RLimb) : Nat → Nat
  | 0 => 0
  | m + 1 => degTo l m + degF l m
theorem degTo_nil (m : Nat) : degTo [] m = 0 := by
  induction m with
  | zero => rfl
  | succ m ih => rw [degTo, ih]; rfl
theorem lt_succ_ite (a m : Nat) : (if a < m + 1 then 1 else 0) = (if a < m then 1 else 0) + (if a = m then 1 else 0) := by
  rcases Nat.lt_trichotomy a m with h | h | h
  · rw [if_pos (by omega), if_pos h, if_neg (by omega)]
  · rw [if_pos (by omega), if_neg (by omega), if_pos h]
  · rw [if_neg (by omega), if_neg (by omega), if_neg (by omega)]
theorem or_ite {a b m : Nat} (hne : a ≠ b) : (if (decide (a = m) || decide (b = m)) = true then 1 else 0) = (if a = m then 1 else 0) + (if b = m then 1 else 0) := by
  by_cases h1 : a = m
  · rw [if_pos h1, if_neg (show ¬ b = m by omega), decide_eq_true h1, Bool.true_or, if_pos rfl]
  · rw [if_neg h1, decide_eq_false h1, Bool.false_or]
    by_cases h2 : b = m
    · rw [if_pos h2, decide_eq_true h2, if_pos rfl]
    · rw [if_neg h2, decide_eq_false h2, if_neg (by simp)]
theorem degTo_cons {t : RLimb} {a b : Nat} (ha : t.1 = (a : Int)) (hb : t.2.1 = (b : Int)) (hne : a ≠ b) (l : List RLimb) (m : Nat) : degTo (t :: l) m = degTo l m + ((if a < m then 1 else 0) + (if b < m then 1 else 0)) := by
  induction m with
  | zero => rfl
  | succ m ih =>
    rw [degTo, degTo, ih]
    have hd : degF (t :: l) m = degF l m + (if touchB t m = true then 1 else 0) := by unfold degF; rw [List.countP_cons]
    have ht : touchB t m = (decide (a = m) || decide (b = m)) := by
      unfold touchB
      rw [ha, hb]
      have h1 : decide ((a : Int) = (m : Int)) = decide (a = m) := by
        by_cases h : a = m
        · rw [decide_eq_true h, decide_eq_true (by omega)]
        · rw [decide_eq_false h, decide_eq_false (by omega)]
      have h2 : decide ((b : Int) = (m : Int)) = decide (b = m) := by
        by_cases h : b = m
        · rw [decide_eq_true h, decide_eq_true (by omega)]
        · rw [decide_eq_false h, decide_eq_false (by omega)]
      rw [h1, h2]
    rw [hd, ht, lt_succ_ite a, lt_succ_ite b, or_ite hne]
    generalize (if a < m then 1 else 0) = p1
    generalize (if b < m then 1 else 0) = p2
    generalize (if a = m then 1 else 0) = p3
    generalize (if b = m then 1 else 0) = p4
    omega
theorem degTo_all {n : Nat} : ∀ l : List RLimb, (∀ t ∈ l, ∃ a b : Nat, t.1 = (a : Int) ∧ t.2.1 = (b : Int) ∧ a < n ∧ b < n ∧ a ≠ b) → degTo l n = 2 * l.length := by
  intro l
  induction l with
  | nil => intro _; rw [degTo_nil]; rfl
  | cons t l ih =>
    intro h
    obtain ⟨a, b, ha, hb, h1, h2, hne⟩ := h t List.mem_cons_self
    rw [degTo_cons ha hb hne, ih (fun x hx => h x (List.mem_cons_of_mem _ hx)), if_pos h1, if_pos h2, List.length_cons]
    omega
theorem body_parts {n : Nat} {l : List RLimb} (h : bodyB n l = true) : (1 ≤ n ∧ n ≤ 12) ∧ l.length + 1 = n ∧ l.all (limbB n) = true ∧ treeB l = true := by
  rw [bodyB, Bool.and_eq_true, Bool.and_eq_true, Bool.and_eq_true, decide_eq_true_eq] at h
  have := inB_iff.1 h.1.1
  exact ⟨by omega, by have := h.1.2; omega, h.2.1, h.2.2⟩
theorem limb_bd {n : Nat} {t : RLimb} (h : limbB n t = true) : (0 ≤ t.1 ∧ t.1 ≤ (n : Int) - 1) ∧ (0 ≤ t.2.1 ∧ t.2.1 ≤ (n : Int) - 1) ∧ 1 ≤ t.2.2 ∧ t.2.2 ≤ 100 := by
  rw [limbB, Bool.and_eq_true, Bool.and_eq_true] at h
  exact ⟨inB_iff.1 h.1.1, inB_iff.1 h.1.2, inB_iff.1 h.2⟩
theorem body_edges {n : Nat} {l : List RLimb} (h : bodyB n l = true) : ∀ t ∈ l, ∃ a b : Nat, t.1 = (a : Int) ∧ t.2.1 = (b : Int) ∧ a < n ∧ b < n ∧ a ≠ b := by
  obtain ⟨h1, h2, h3, h4⟩ := body_parts h
  intro t ht
  have hb := limb_bd (List.all_eq_true.1 h3 t ht)
  refine ⟨t.1.toNat, t.2.1.toNat, by omega, by omega, by omega, by omega, fun e => ?_⟩
  obtain ⟨k, hk, rfl⟩ := List.getElem_of_mem ht
  have := tree_ne hk (a := l[k].1) rfl (by omega)
  rw [h4] at this
  exact absurd this (by simp)
theorem body_deg {n : Nat} {l : List RLimb} (h : bodyB n l = true) : degTo l n = 2 * (n - 1) := by
  rw [degTo_all l (body_edges h)]
  have := (body_parts h).2.1
  omega
theorem edges_lt {n : Nat} {l : List RLimb} (h : l.all (limbB n) = true) : ∀ e ∈ l.map limbE, e.1 < n ∧ e.2 < n := by
  intro e he
  obtain ⟨t, ht, rfl⟩ := List.mem_map.1 he
  have := limb_bd (List.all_eq_true.1 h t ht)
  show t.1.toNat < n ∧ t.2.1.toNat < n
  omega
theorem uniFold_lt {n : Nat} : ∀ (es : List Edge) (p : Nat → Nat), (∀ e ∈ es, e.1 < n ∧ e.2 < n) → (∀ j, j < n → p j < n) → ∀ j, j < n → uniFold es p j < n := by
  intro es
  induction es with
  | nil => intro p _ hp; exact hp
  | cons e es ih => intro p he hp; exact ih _ (fun d hd => he d (List.mem_cons_of_mem _ hd)) (uniStep_lt (he e List.mem_cons_self).1 hp)
/-- every joint of a body of two joints or more has a limb -/
theorem deg_pos {n : Nat} {l : List RLimb} (h : bodyB n l = true) (hn : 2 ≤ n) {j : Nat} (hj : j < n) : 1 ≤ degF l j := by
  obtain ⟨h1, h2, h3, h4⟩ := body_parts h
  apply Classical.byContradiction
  intro h0
  have h0 : degF l j = 0 := by omega
  have he := edges_lt h3
  obtain ⟨_, i2⟩ := img_fold (n := n) (l.map limbE) id he (fun j hj => hj)
  have i3 := i2.1 h4
  rw [img_id, List.length_map] at i3
  have hone := (img_one (n := n) (by omega) (uniFold_lt _ id he (fun j hj => hj))).1 (by omega)
  have hno : ∀ e ∈ l.map limbE, (e.1 = j ↔ e.2 = j) := by
    intro e hm
    obtain ⟨t, ht, rfl⟩ := List.mem_map.1 hm
    unfold degF at h0
    rw [List.countP_eq_zero] at h0
    have := h0 t ht
    have hb := limb_bd (List.all_eq_true.1 h3 t ht)
    unfold touchB at this
    simp only [Bool.or_eq_true, decide_eq_true_eq, not_or] at this
    show t.1.toNat = j ↔ t.2.1.toNat = j
    omega
  have hcl := uniFold_closed (fun a => a = j) (l.map limbE) id hno (fun a b hab => by rw [show a = b from hab])
  obtain ⟨b, hb, hbj⟩ : ∃ b, b < n ∧ b ≠ j := by
    by_cases hj0 : j = 0
    · exact ⟨1, by omega, by omega⟩
    · exact ⟨0, by omega, by omega⟩
  exact hbj ((hcl j b ((hone j hj).trans (hone b hb).symm)).1 rfl)
theorem ends_two {n : Nat} {l : List RLimb} (h : bodyB n l = true) : (2 ≤ n → 2 ≤ (endsTo l n).length) ∧ (n = 1 → 1 ≤ (endsTo l n).length) := by
  constructor
  · intro hn
    have key : ∀ m, m ≤ n → 2 * m ≤ degTo l m + (endsTo l m).length := by
      intro m
      induction m with
      | zero => intro _; omega
      | succ m ih =>
        intro hm
        have := ih (by omega)
        have hp := deg_pos h hn (show m < n by omega)
        rw [degTo]
        by_cases hd : degF l m ≤ 1
        · rw [endsTo_t hd, List.length_append]; simp; omega
        · rw [endsTo_f hd]; omega
    have := key n (Nat.le_refl _)
    have := body_deg h
    omega
  · intro hn
    subst hn
    have hl := (body_parts h).2.1
    have : l = [] := List.eq_nil_of_length_eq_zero (by omega)
    subst this
    decide
/- one more limb -/
theorem acyclic_snoc (e : Edge) : ∀ (es : List Edge) (p : Nat → Nat), acyclic (es ++ [e]) p = (acyclic es p && !(uniFold es p e.1 == uniFold es p e.2)) := by
  intro es
  induction es with
  | nil => intro p; simp [acyclic, uniFold]
  | cons d es ih => intro p; rw [List.cons_append, acyclic, acyclic, ih, Bool.and_assoc]; rfl
theorem uniFold_new {n : Nat} : ∀ (es : List Edge) (p : Nat → Nat), (∀ e ∈ es, e.1 < n ∧ e.2 < n) → (∀ j, j < n → p j < n) → p n = n → uniFold es p n = n := by
  intro es
  induction es with
  | nil => intro p _ _ h; exact h
  | cons e es ih =>
    intro p he hp h
    obtain ⟨h1, h2⟩ := he e List.mem_cons_self
    refine ih _ (fun d hd => he d (List.mem_cons_of_mem _ hd)) (uniStep_lt h1 hp) ?_
    unfold uniStep relabel
    rw [h, if_neg (by have := hp _ h2; omega)]
theorem add_limb {n : Nat} {l : List RLimb} (h : bodyB n l = true) {j : Nat} (hj : j < n) (hn : n < 12) {x : Int} (hx : 1 ≤ x ∧ x ≤ 100) : bodyB ((n : Int) + 1) (l ++ [((j : Int), (n : Int), x)]) = true := by
  obtain ⟨h1, h2, h3, h4⟩ := body_parts h
  refine body_t (inB_iff.2 (by omega)) (by rw [List.length_append]; simp; omega) ?_ ?_
  · rw [List.all_eq_true]
    intro t ht
    rcases List.mem_append.1 ht with ht | ht
    · have := limb_bd (List.all_eq_true.1 h3 t ht)
      exact limb_t rfl (inB_iff.2 (by omega)) (inB_iff.2 (by omega)) (inB_iff.2 (by omega))
    · rw [List.mem_singleton.1 ht]
      exact limb_t rfl (inB_iff.2 (by simp <;> omega)) (inB_iff.2 (by simp <;> omega)) (inB_iff.2 (by simp <;> omega))
  · have he := edges_lt h3
    unfold treeB
    rw [List.map_append]
    show acyclic (l.map limbE ++ [(j, n)]) id = true
    rw [acyclic_snoc, show acyclic (l.map limbE) id = true from h4, Bool.true_and]
    have e1 : uniFold (l.map limbE) id n = n := uniFold_new _ id he (fun j hj => hj) rfl
    have e2 := uniFold_lt _ id he (fun j hj => hj) j hj
    show (!(uniFold (l.map limbE) id j == uniFold (l.map limbE) id n)) = true
    rw [e1]
    have : (uniFold (l.map limbE) id j == n) = false := by rw [beq_eq_false_iff_ne]; omega
    rw [this]; rfl
end Go.Proofs.Ytomghkfkbpkbdaa

namespace Go.Proofs.Ytomghkfkbpkbdaa
open Go.RowKit
def RetBody (n : Int) (ok : Bool) (l : List RLimb) (w : World) (e : Ending) (w' : World) : Prop :=
  ∃ x1 S, e = .returned (.tuple #[.agg #[.int .i64 n, x1], .bool ok]) ∧ OwBody w' S x1 l ∧ Fresh w.heap.size w' S ∧ Below w.heap.size w w'
def addB (n : Int) (l : List RLimb) (j len : Int) : Bool := (bodyB n l && inB j 0 (n - 1)) && bodyB (n + 1) (l ++ [(j, n, len)])
def addN (n : Int) (l : List RLimb) (j len : Int) : Int := if addB n l j len = true then n + 1 else n
def addL (n : Int) (l : List RLimb) (j len : Int) : List RLimb := if addB n l j len = true then l ++ [(j, n, len)] else l
theorem body_bd {n : Int} {l : List RLimb} (h : bodyB n l = true) : 1 ≤ n ∧ n ≤ 12 ∧ (l.length : Int) = n - 1 ∧ l.length ≤ 11 := by
  rw [bodyB, Bool.and_eq_true, Bool.and_eq_true, decide_eq_true_iff] at h
  have := inB_iff.1 h.1.1
  have := h.1.2
  omega
theorem add_sz (n : Int) (l : List RLimb) (j len : Int) : szBody (addL n l j len) ≤ szBody l ∨ szBody (addL n l j len) ≤ 1000 := by
  unfold addL
  split
  · rename_i h
    rw [addB, Bool.and_eq_true] at h
    have := body_bd h.2
    unfold szBody
    omega
  · exact .inl (Nat.le_refl _)
theorem add_f {n j len : Int} {l : List RLimb} {w w' : World} {e : Ending} (h : addB n l j len = false) (hr : RetBody n false l w e w') : RetBody (addN n l j len) (addB n l j len) (addL n l j len) w e w' := by rw [addN, addL, h]; exact hr
theorem add_t {n j len : Int} {l : List RLimb} {w w' : World} {e : Ending} (h : addB n l j len = true) (hr : RetBody (n + 1) true (l ++ [(j, n, len)]) w e w') : RetBody (addN n l j len) (addB n l j len) (addL n l j len) w e w' := by rw [addN, addL, h]; exact hr
theorem and3 {a b : Bool} (h1 : a = true) (h2 : b = true) : (a && b) = true := by rw [h1, h2]; rfl
set_option maxHeartbeats 8000000 in
set_option maxRecDepth 100000 in
theorem implAddLimb_any (n j len : Int) (v1 : Value) (l : List RLimb) (w : World) (h : RdBody w v1 l) (hsz : szBody l ≤ 1048576) :
    Calls Try.prog 10 #[.agg #[.int .i64 n, v1], .int .i64 j, .int .i64 len] w (RetBody (addN n l j len) (addB n l j len) (addL n l j len) w) := by
  obtain ⟨A1, n1, rfl⟩ := h.forms
  obtain ⟨i0, ii0, iz0, iz1, iz2⟩ := info_parts infoLimb
  go_enter Try.func10, Try.ntmps10
  go_wp2_with fail
  refine (bodyCopied_any n _ l _ (h.below (by (repeat' (first | (with_reducible exact Below.refl _ _) | (with_reducible assumption) | (with_reducible refine Below.setCell ?_ (by first | omega | (simp; omega) | (simp; done)) _) | (with_reducible refine Below.alloc ?_ (by first | omega | (simp; omega) | (simp; done)) _) | (with_reducible refine Below.drew ?_) | (with_reducible refine below_drewN ?_ _))))) hsz).mono ?_
  rintro e W1 ⟨x1, S, rfl, ow, f1, q⟩
  obtain ⟨B1, k1, rfl⟩ := ow.rd.forms
  have Lc : Loc W1 (w.heap.size) [.int .i64 n, .slice A1 l.length n1] := by have := ((Loc.new w #[.int .i64 n, .slice A1 l.length n1] 26).alloc _).below q; simpa using this
  have Lr : Loc W1 (w.heap.size + 1) [.int .i64 0, .slice none 0 0] := by have := (Loc.new (w.alloc (.cells #[.int .i64 n, .slice A1 l.length n1] 26)) #[.int .i64 0, .slice none 0 0] 26).below q; simpa using this
  have hb : Below w.heap.size w W1 := Below.trans (by (repeat' (first | (with_reducible exact Below.refl _ _) | (with_reducible assumption) | (with_reducible refine Below.setCell ?_ (by first | omega | (simp; omega) | (simp; done)) _) | (with_reducible refine Below.alloc ?_ (by first | omega | (simp; omega) | (simp; done)) _) | (with_reducible refine Below.drew ?_) | (with_reducible refine below_drewN ?_ _)))) (q.mono (by simp <;> omega))
  have hz0 : w.heap.size + 1 + 1 ≤ W1.heap.size := by have := q.size; simp at this; omega
  have hlow : w.heap.size + 1 + 1 ≤ (((w.alloc (.cells #[.int .i64 n, .slice A1 l.length n1] 26)).alloc (.cells #[.int .i64 0, .slice none 0 0] 26))).heap.size := by first | exact Nat.le_refl _ | (simp; done) | (simp; omega) | omega
  have FK := Lib.hid (fresh_mono f1 hlow (Nat.le_refl _))
  have DK : Hid (∀ x ∈ S, x ∉ [w.heap.size, w.heap.size + 1]) := (fun x hx => by have := (FK.out.2 x hx).1; simp; omega)
  have OK := Lib.hid ow
  clear ow f1 hlow
  clear q
  go_upto_region 2 with (fail)
  replace Lc : Loc (W1.alloc (.cells #[.int .i64 n, .slice B1 l.length k1] 26)) (w.heap.size) [.int .i64 n, .slice A1 l.length n1] := Lc.alloc _
  replace Lr : Loc (W1.alloc (.cells #[.int .i64 n, .slice B1 l.length k1] 26)) (w.heap.size + 1) [.int .i64 0, .slice none 0 0] := Lr.alloc _
  obtain ⟨go, hgo⟩ : ∃ g, W1.heap.size = g := ⟨_, rfl⟩
  have Lo : Loc (W1.alloc (.cells #[.int .i64 n, .slice B1 l.length k1] 26)) W1.heap.size [.int .i64 n, .slice B1 l.length k1] := Loc.new W1 #[.int .i64 n, .slice B1 l.length k1] 26
  rw [hgo] at Lo
  have OK' := Lib.hid (OK.out.below (w' := (W1.alloc (.cells #[.int .i64 n, .slice B1 l.length k1] 26))) ((Below.refl _ _).alloc (Nat.le_refl _) _))
  clear OK; have OK := OK'; clear OK'
  have DK' : Hid (∀ x ∈ S, x ∉ [w.heap.size, w.heap.size + 1, go]) := (fun x hx => by have := DK.out x hx; have := (FK.out.2 x hx).2; simp at *; omega)
  clear DK; have DK := DK'; clear DK'
  have FK' := Lib.hid (fresh_mono (w' := (W1.alloc (.cells #[.int .i64 n, .slice B1 l.length k1] 26))) FK.out (Nat.le_refl _) (by simp))
  clear FK; have FK := FK'; clear FK'
  replace hb : Below w.heap.size w (W1.alloc (.cells #[.int .i64 n, .slice B1 l.length k1] 26)) := hb.alloc hb.size _
  have hlto : go < (W1.alloc (.cells #[.int .i64 n, .slice B1 l.length k1] 26)).heap.size := by simp; omega
  have hne_c_o : w.heap.size < go := by omega
  have hne_r_o : w.heap.size + 1 < go := by omega
  generalize W1.alloc (.cells #[.int .i64 n, .slice B1 l.length k1] 26) = W2 at *
  rw [hgo]
  clear hgo
  have c0 := (Lc 0 _ rfl).1
  have c1 := (Lc 1 _ rfl).1
  go_wp2_with fail
  refine twoB (isJoint_any n j _ l _ (h.below hb)) (fun W3 hq q => ?_) (fun W3 hq q => ?_)
  · skip
    clear c0 c1
    have hzq : W2.heap.size ≤ W3.heap.size := by have := q.size; (try simp at this); omega
    replace Lc := Lc.below q
    replace Lr := Lr.below q
    replace Lo := Lo.below q
    have OK' := Lib.hid (OK.out.below q)
    clear OK; have OK := OK'; clear OK'
    have FK' := Lib.hid (fresh_mono (w' := W3) FK.out (Nat.le_refl _) hzq)
    clear FK; have FK := FK'; clear FK'
    replace hb : Below w.heap.size w W3 := hb.trans (q.mono hb.size)
    clear q
    have H1 := hq
    have hbd := body_bd (Bool.and_eq_true_iff.1 H1.out).1
    have oK : OwL 62 cLimb 3 W3 S (.slice B1 l.length k1) l := by obtain ⟨S1, rfl, h⟩ := OK.out; exact h
    have HeS := Lib.hid oK.2
    have Hown : Hid (W3.ownsRow (w.heap.size + 1 + 1) 62 3 (.slice B1 l.length k1) l.length (l.flatMap cLimb)) := own_up oK.1 (fun b hb => FK.out.2 b (by rw [HeS.out]; exact hb))
    clear oK
    have hx_c : Hid (w.heap.size ∉ (Value.slice B1 l.length k1).ownBlock.toList) := (fun hm => DK.out _ (by rw [HeS.out]; exact hm) (by simp))
    have hx_r : Hid (w.heap.size + 1 ∉ (Value.slice B1 l.length k1).ownBlock.toList) := (fun hm => DK.out _ (by rw [HeS.out]; exact hm) (by simp))
    have hx_o : Hid (go ∉ (Value.slice B1 l.length k1).ownBlock.toList) := (fun hm => DK.out _ (by rw [HeS.out]; exact hm) (by simp))
    have hwA : W3.heap.size ≤ (W3.alloc (.cells #[.int .i64 j, .int .i64 n, .int .i64 len] 62)).heap.size := by simp
    have c0 := (Lc 0 _ rfl).1
    have o0 := (Lo 0 _ rfl).1
    have o1 := (Lo 1 _ rfl).1
    have of1 := (Lo 1 _ rfl).2
    go_upto_region 5 with ((at_builtin; refine wpList_appendB _ rfl (.tmp 17) (.tmp 23) _ rfl (w.heap.size + 1 + 1) 62 i0 _ 3 24 Try.underlying24 ii0 iz0 iz1 iz2 rfl (by omega) _ l.length (l.flatMap cLimb) rfl (Hown.out.alloc _) _ 1 [.int .i64 j, .int .i64 n, .int .i64 len] rfl (rdS_new W3 #[.int .i64 j, .int .i64 n, .int .i64 len] _ 3 1 rfl (by simp [maxLen])) (by simp [Value.oneCell']) (by simp [maxLen]; omega) (by omega) (by simp; omega) ?_; intro v3 w3 own3 gr3 at3; obtain ⟨B3, k3, rfl, _, _⟩ := (RdS.of_own own3).form; have hch := Chg.of_grown gr3; have LoA : Loc (W3.alloc (.cells #[.int .i64 j, .int .i64 n, .int .i64 len] 62)) (go) [.int .i64 n, .slice B1 l.length k1] := Lo.alloc _; have ho := carryChg hch (LoA 1 _ rfl).1 hx_o.out; have hof := carryChgF hch (LoA 1 _ rfl).1 (LoA 1 _ rfl).2 hx_o.out))
    clear LoA c0 o0 o1 of1
    have hs3 := gr3.size
    replace Lc : Loc (w3.setCell ⟨go, 1, none⟩ (.slice B3 (l.length + 1) k3)) (w.heap.size) [.int .i64 n, .slice A1 l.length n1] := ((Lc.alloc _).chg hch hx_c.out).far (g := go) (i := 1) (u := .slice B3 (l.length + 1) k3) (by omega)
    replace Lr : Loc (w3.setCell ⟨go, 1, none⟩ (.slice B3 (l.length + 1) k3)) (w.heap.size + 1) [.int .i64 0, .slice none 0 0] := ((Lr.alloc _).chg hch hx_r.out).far (g := go) (i := 1) (u := .slice B3 (l.length + 1) k3) (by omega)
    replace Lo : Loc (w3.setCell ⟨go, 1, none⟩ (.slice B3 (l.length + 1) k3)) (go) [.int .i64 n, .slice B3 (l.length + 1) k3] := ((Lo.alloc _).chg hch hx_o.out).set (i := 1) (v := .slice B1 l.length k1) rfl
    have hT : ∀ b ∈ [w.heap.size, w.heap.size + 1, go], b < (W3.alloc (.cells #[.int .i64 j, .int .i64 n, .int .i64 len] 62)).heap.size ∧ b ∉ (Value.slice B1 l.length k1).ownBlock.toList := by
      intro b hb
      simp only [List.mem_cons, List.not_mem_nil, or_false] at hb
      rcases hb with rfl | rfl | rfl
      · exact ⟨by omega, hx_c.out⟩
      · exact ⟨by omega, hx_r.out⟩
      · exact ⟨by omega, hx_o.out⟩
    obtain ⟨f3, hd3⟩ := fresh_app own3 at3 hT
    have o3 : OwBody w3 (Value.slice B3 (l.length + 1) k3).ownBlock.toList (.slice B3 (l.length + 1) k3) (l ++ [(j, n, len)]) := ⟨_, rfl, by rw [List.length_append, List.flatMap_append]; exact own_mono own3 (Nat.zero_le _), rfl⟩
    have hset : Chg [go] w3 (w3.setCell ⟨go, 1, none⟩ (.slice B3 (l.length + 1) k3)) := by repeat' (first | (with_reducible exact Chg.refl _ _) | (with_reducible refine chg_set ?_ (by simp)))
    have ow4 := o3.chg hset (fun b hb hm => hd3 b hb (by simp at hm; subst hm; simp))
    have f4 := fresh_mono (w' := (w3.setCell ⟨go, 1, none⟩ (.slice B3 (l.length + 1) k3))) f3 (Nat.le_refl _) hset.size
    have hbA : Below w.heap.size w (W3.alloc (.cells #[.int .i64 j, .int .i64 n, .int .i64 len] 62)) := hb.alloc hb.size _
    replace hb : Below w.heap.size w (w3.setCell ⟨go, 1, none⟩ (.slice B3 (l.length + 1) k3)) := Below.chg (Below.chg hbA hch hbA.size (fun b hm => by have := (FK.out.2 b (by rw [HeS.out]; exact hm)).1; omega)) hset (by have := hbA.size; omega) (by simp; omega)
    have hgt : W3.heap.size ≤ (w3.setCell ⟨go, 1, none⟩ (.slice B3 (l.length + 1) k3)).heap.size := by rw [World.size_setCell]; omega
    clear o3 hset f3 own3 gr3 at3 hch ho hof hbA hs3 hT hwA HeS Hown hx_c hx_r hx_o OK FK DK
    generalize w3.setCell ⟨go, 1, none⟩ (.slice B3 (l.length + 1) k3) = W4 at *
    obtain ⟨S3, hS3⟩ : ∃ T, (Value.slice B3 (l.length + 1) k3).ownBlock.toList = T := ⟨_, rfl⟩
    rw [hS3] at ow4 f4 hd3
    clear hS3
    have OK := Lib.hid ow4
    have FK := Lib.hid f4
    have DK : Hid (∀ x ∈ S3, x ∉ [w.heap.size, w.heap.size + 1, go]) := hd3
    clear ow4 f4 hd3
    have c0 := (Lc 0 _ rfl).1
    have o0 := (Lo 0 _ rfl).1
    have of0 := (Lo 0 _ rfl).2
    have o1 := (Lo 1 _ rfl).1
    go_upto_region 6 with (fail)
    clear c0 o0 of0 o1
    replace Lc : Loc (W4.setCell ⟨go, 0, none⟩ (.int .i64 (n + 1))) (w.heap.size) [.int .i64 n, .slice A1 l.length n1] := Lc.far (g := go) (i := 0) (u := .int .i64 (n + 1)) (by omega)
    replace Lr : Loc (W4.setCell ⟨go, 0, none⟩ (.int .i64 (n + 1))) (w.heap.size + 1) [.int .i64 0, .slice none 0 0] := Lr.far (g := go) (i := 0) (u := .int .i64 (n + 1)) (by omega)
    replace Lo : Loc (W4.setCell ⟨go, 0, none⟩ (.int .i64 (n + 1))) (go) [.int .i64 (n + 1), .slice B3 (l.length + 1) k3] := Lo.set (i := 0) (v := .int .i64 n) rfl
    have hch : Chg [go] W4 (W4.setCell ⟨go, 0, none⟩ (.int .i64 (n + 1))) := chg_set (Chg.refl _ _) (by simp)
    have OK' := Lib.hid (OK.out.chg hch (fun x hx hx' => DK.out x hx (by simp at hx'; subst hx'; simp)))
    clear OK; have OK := OK'; clear OK'
    have FK' := Lib.hid (fresh_mono (w' := (W4.setCell ⟨go, 0, none⟩ (.int .i64 (n + 1)))) FK.out (Nat.le_refl _) hch.size)
    clear FK; have FK := FK'; clear FK'
    replace hb : Below w.heap.size w (W4.setCell ⟨go, 0, none⟩ (.int .i64 (n + 1))) := Below.chg hb hch hb.size (by simp; omega)
    have hzc := hch.size
    clear hch
    generalize W4.setCell ⟨go, 0, none⟩ (.int .i64 (n + 1)) = W5 at *
    have o0 := (Lo 0 _ rfl).1
    have o1 := (Lo 1 _ rfl).1
    go_wp2_with fail
    refine twoB (implBodyOk_any (n + 1) _ (l ++ [(j, n, len)]) _ OK.out.rd) (fun W6 hq2 q => ?_) (fun W6 hq2 q => ?_)
    · skip
      clear o0 o1
      have hzq : W5.heap.size ≤ W6.heap.size := by have := q.size; (try simp at this); omega
      replace Lc := Lc.below q
      replace Lr := Lr.below q
      replace Lo := Lo.below q
      have OK' := Lib.hid (OK.out.below q)
      clear OK; have OK := OK'; clear OK'
      have FK' := Lib.hid (fresh_mono (w' := W6) FK.out (Nat.le_refl _) hzq)
      clear FK; have FK := FK'; clear FK'
      replace hb : Below w.heap.size w W6 := hb.trans (q.mono hb.size)
      clear q
      have o0 := (Lo 0 _ rfl).1
      have o1 := (Lo 1 _ rfl).1
      have r0 := (Lr 0 _ rfl).1
      have rf0 := (Lr 0 _ rfl).2
      have r1 := (Lr 1 _ rfl).1
      have rf1 := (Lr 1 _ rfl).2
      go_wp2_with fail
      refine bodyPost_ret (v := .tuple #[.agg #[.int .i64 (n + 1), .slice B3 (l.length + 1) k3], .bool true]) (by simp [results, Try.results10, go_sem, *]) rfl (add_t (and3 H1.out hq2.out) ⟨_, S3, rfl, ?_, ?_, ?_⟩)
      · exact OK.out.chg (T := [w.heap.size + 1]) (by repeat' (first | (with_reducible exact Chg.refl _ _) | (with_reducible refine chg_set ?_ (by simp)))) (fun x hx hx' => DK.out x hx (by simp at hx'; subst hx'; simp))
      · exact fresh_mono FK.out (by omega) (by simp)
      · exact Below.chg hb (S := [w.heap.size + 1]) (by repeat' (first | (with_reducible exact Chg.refl _ _) | (with_reducible refine chg_set ?_ (by simp)))) hb.size (fun x hx => by simp at hx; omega)
    · skip
      clear o0 o1
      have hzq : W5.heap.size ≤ W6.heap.size := by have := q.size; (try simp at this); omega
      replace Lc := Lc.below q
      replace Lr := Lr.below q
      replace Lo := Lo.below q
      have OK' := Lib.hid (OK.out.below q)
      clear OK; have OK := OK'; clear OK'
      have FK' := Lib.hid (fresh_mono (w' := W6) FK.out (Nat.le_refl _) hzq)
      clear FK; have FK := FK'; clear FK'
      replace hb : Below w.heap.size w W6 := hb.trans (q.mono hb.size)
      clear q
      clear OK FK DK
      have c0 := (Lc 0 _ rfl).1
      have c1 := (Lc 1 _ rfl).1
      go_wp2_with fail
      refine (bodyCopied_any n _ l _ (h.below hb) hsz).mono ?_
      rintro e W7 ⟨x1, S9, rfl, ow, f1, q⟩
      clear c0 c1
      obtain ⟨B9, k9, rfl⟩ := ow.rd.forms
      have hzq : W6.heap.size ≤ W7.heap.size := by have := q.size; (try simp at this); omega
      replace Lc := Lc.below q
      replace Lr := Lr.below q
      replace Lo := Lo.below q
      replace hb : Below w.heap.size w W7 := hb.trans (q.mono hb.size)
      have hlow : W6.heap.size ≤ W6.heap.size := by first | exact Nat.le_refl _ | (simp; done) | (simp; omega) | omega
      have FM := Lib.hid (fresh_mono f1 hlow (Nat.le_refl _))
      have DM : Hid (∀ x ∈ S9, x ∉ [w.heap.size, w.heap.size + 1, go]) := (fun x hx => by have := (FM.out.2 x hx).1; simp; omega)
      have OM := Lib.hid ow
      clear ow f1 hlow
      clear q
      have r0 := (Lr 0 _ rfl).1
      have rf0 := (Lr 0 _ rfl).2
      have r1 := (Lr 1 _ rfl).1
      have rf1 := (Lr 1 _ rfl).2
      go_wp2_with fail
      refine bodyPost_ret (v := .tuple #[.agg #[.int .i64 n, .slice B9 l.length k9], .bool false]) (by simp [results, Try.results10, go_sem, *]) rfl (add_f (by rw [addB, hq2.out, Bool.and_false]) ⟨_, S9, rfl, ?_, ?_, ?_⟩)
      · exact OM.out.chg (T := [w.heap.size + 1]) (by repeat' (first | (with_reducible exact Chg.refl _ _) | (with_reducible refine chg_set ?_ (by simp)))) (fun x hx hx' => DM.out x hx (by simp at hx'; subst hx'; simp))
      · exact fresh_mono FM.out (by omega) (by simp)
      · exact Below.chg hb (S := [w.heap.size + 1]) (by repeat' (first | (with_reducible exact Chg.refl _ _) | (with_reducible refine chg_set ?_ (by simp)))) hb.size (fun x hx => by simp at hx; omega)
  · skip
    clear c0 c1
    have hzq : W2.heap.size ≤ W3.heap.size := by have := q.size; (try simp at this); omega
    replace Lc := Lc.below q
    replace Lr := Lr.below q
    replace Lo := Lo.below q
    have OK' := Lib.hid (OK.out.below q)
    clear OK; have OK := OK'; clear OK'
    have FK' := Lib.hid (fresh_mono (w' := W3) FK.out (Nat.le_refl _) hzq)
    clear FK; have FK := FK'; clear FK'
    replace hb : Below w.heap.size w W3 := hb.trans (q.mono hb.size)
    clear q
    have o0 := (Lo 0 _ rfl).1
    have o1 := (Lo 1 _ rfl).1
    have r0 := (Lr 0 _ rfl).1
    have rf0 := (Lr 0 _ rfl).2
    have r1 := (Lr 1 _ rfl).1
    have rf1 := (Lr 1 _ rfl).2
    go_wp2_with fail
    refine bodyPost_ret (v := .tuple #[.agg #[.int .i64 n, .slice B1 l.length k1], .bool false]) (by simp [results, Try.results10, go_sem, *]) rfl (add_f (by rw [addB, hq.out]; rfl) ⟨_, S, rfl, ?_, ?_, ?_⟩)
    · exact OK.out.chg (T := [w.heap.size + 1]) (by repeat' (first | (with_reducible exact Chg.refl _ _) | (with_reducible refine chg_set ?_ (by simp)))) (fun x hx hx' => DK.out x hx (by simp at hx'; subst hx'; simp))
    · exact fresh_mono FK.out (by omega) (by simp)
    · exact Below.chg hb (S := [w.heap.size + 1]) (by repeat' (first | (with_reducible exact Chg.refl _ _) | (with_reducible refine chg_set ?_ (by simp)))) hb.size (fun x hx => by simp at hx; omega)
set_option maxHeartbeats 8000000 in
set_option maxRecDepth 100000 in
theorem specAddLimb_any (n j len : Int) (v1 : Value) (l : List RLimb) (w : World) (h : RdBody w v1 l) (hsz : szBody l ≤ 1048576) :
    Calls Try.prog 59 #[.agg #[.int .i64 n, v1], .int .i64 j, .int .i64 len] w (RetBody (addN n l j len) (addB n l j len) (addL n l j len) w) := by
  obtain ⟨A1, n1, rfl⟩ := h.forms
  obtain ⟨i0, ii0, iz0, iz1, iz2⟩ := info_parts infoLimb
  go_enter Try.func59, Try.ntmps59
  go_wp2_with fail
  refine twoB (specBodyOk_any n _ l _ (RdBody.below h (by (repeat' (first | (with_reducible exact Below.refl _ _) | (with_reducible assumption) | (with_reducible refine Below.setCell ?_ (by first | omega | (simp; omega) | (simp; done)) _) | (with_reducible refine Below.alloc ?_ (by first | omega | (simp; omega) | (simp; done)) _) | (with_reducible refine Below.drew ?_) | (with_reducible refine below_drewN ?_ _)))))) (fun W1 hq q => ?_) (fun W1 hq q => ?_)
  · skip
    have Lc : Loc W1 (w.heap.size) [.int .i64 n, .slice A1 l.length n1] := by have := ((Loc.new w #[.int .i64 n, .slice A1 l.length n1] 26).alloc _).below q; simpa using this
    have Lr : Loc W1 (w.heap.size + 1) [.int .i64 0, .slice none 0 0] := by have := (Loc.new (w.alloc (.cells #[.int .i64 n, .slice A1 l.length n1] 26)) #[.int .i64 0, .slice none 0 0] 26).below q; simpa using this
    have hb : Below w.heap.size w W1 := Below.trans (by (repeat' (first | (with_reducible exact Below.refl _ _) | (with_reducible assumption) | (with_reducible refine Below.setCell ?_ (by first | omega | (simp; omega) | (simp; done)) _) | (with_reducible refine Below.alloc ?_ (by first | omega | (simp; omega) | (simp; done)) _) | (with_reducible refine Below.drew ?_) | (with_reducible refine below_drewN ?_ _)))) (q.mono (by simp <;> omega))
    have hz0 : w.heap.size + 1 + 1 ≤ W1.heap.size := by have := q.size; simp at this; omega
    clear q
    have hbd0 := body_bd hq.out
    have c0 := (Lc 0 _ rfl).1
    have c1 := (Lc 1 _ rfl).1
    go_wp2_with (go_at_call 70; refine twoI (l01In_any _ _ _ _) (fun hc hm hm' => ?_) (fun hc => ?_))
    · skip
      refine (l02Copy_any n _ l _ (h.below hb) hsz).mono ?_
      rintro e W2 ⟨x1, S, rfl, ow, f1, q⟩
      clear c0 c1
      obtain ⟨B1, k1, rfl⟩ := ow.rd.forms
      have hzq : W1.heap.size ≤ W2.heap.size := by have := q.size; (try simp at this); omega
      replace Lc := Lc.below q
      replace Lr := Lr.below q
      replace hb : Below w.heap.size w W2 := hb.trans (q.mono hb.size)
      have hlow : W1.heap.size ≤ W1.heap.size := by first | exact Nat.le_refl _ | (simp; done) | (simp; omega) | omega
      have FK := Lib.hid (fresh_mono f1 hlow (Nat.le_refl _))
      have DK : Hid (∀ x ∈ S, x ∉ [w.heap.size, w.heap.size + 1]) := (fun x hx => by have := (FK.out.2 x hx).1; simp; omega)
      have OK := Lib.hid ow
      clear ow f1 hlow
      clear q
      have FK' := Lib.hid (fresh_mono FK.out hz0 (Nat.le_refl _))
      clear FK; have FK := FK'; clear FK'
      go_upto_region 4 with (fail)
      replace Lc : Loc (W2.alloc (.cells #[.int .i64 n, .slice B1 l.length k1] 26)) (w.heap.size) [.int .i64 n, .slice A1 l.length n1] := Lc.alloc _
      replace Lr : Loc (W2.alloc (.cells #[.int .i64 n, .slice B1 l.length k1] 26)) (w.heap.size + 1) [.int .i64 0, .slice none 0 0] := Lr.alloc _
      obtain ⟨go, hgo⟩ : ∃ g, W2.heap.size = g := ⟨_, rfl⟩
      have Lo : Loc (W2.alloc (.cells #[.int .i64 n, .slice B1 l.length k1] 26)) W2.heap.size [.int .i64 n, .slice B1 l.length k1] := Loc.new W2 #[.int .i64 n, .slice B1 l.length k1] 26
      rw [hgo] at Lo
      have OK' := Lib.hid (OK.out.below (w' := (W2.alloc (.cells #[.int .i64 n, .slice B1 l.length k1] 26))) ((Below.refl _ _).alloc (Nat.le_refl _) _))
      clear OK; have OK := OK'; clear OK'
      have DK' : Hid (∀ x ∈ S, x ∉ [w.heap.size, w.heap.size + 1, go]) := (fun x hx => by have := DK.out x hx; have := (FK.out.2 x hx).2; simp at *; omega)
      clear DK; have DK := DK'; clear DK'
      have FK' := Lib.hid (fresh_mono (w' := (W2.alloc (.cells #[.int .i64 n, .slice B1 l.length k1] 26))) FK.out (Nat.le_refl _) (by simp))
      clear FK; have FK := FK'; clear FK'
      replace hb : Below w.heap.size w (W2.alloc (.cells #[.int .i64 n, .slice B1 l.length k1] 26)) := hb.alloc hb.size _
      have hlto : go < (W2.alloc (.cells #[.int .i64 n, .slice B1 l.length k1] 26)).heap.size := by simp; omega
      have hne_c_o : w.heap.size < go := by omega
      have hne_r_o : w.heap.size + 1 < go := by omega
      generalize W2.alloc (.cells #[.int .i64 n, .slice B1 l.length k1] 26) = W3 at *
      rw [hgo]
      clear hgo
      have H1 : Hid ((bodyB n l && inB j 0 (n - 1)) = true) := and3 hq.out hc.out
      have hbd := body_bd (Bool.and_eq_true_iff.1 H1.out).1
      have c0 := (Lc 0 _ rfl).1
      have o0 := (Lo 0 _ rfl).1
      have of0 := (Lo 0 _ rfl).2
      have o1 := (Lo 1 _ rfl).1
      go_upto_region 5 with (fail)
      clear c0 o0 of0 o1
      replace Lc : Loc (W3.setCell ⟨go, 0, none⟩ (.int .i64 (n + 1))) (w.heap.size) [.int .i64 n, .slice A1 l.length n1] := Lc.far (g := go) (i := 0) (u := .int .i64 (n + 1)) (by omega)
      replace Lr : Loc (W3.setCell ⟨go, 0, none⟩ (.int .i64 (n + 1))) (w.heap.size + 1) [.int .i64 0, .slice none 0 0] := Lr.far (g := go) (i := 0) (u := .int .i64 (n + 1)) (by omega)
      replace Lo : Loc (W3.setCell ⟨go, 0, none⟩ (.int .i64 (n + 1))) (go) [.int .i64 (n + 1), .slice B1 l.length k1] := Lo.set (i := 0) (v := .int .i64 n) rfl
      have hch : Chg [go] W3 (W3.setCell ⟨go, 0, none⟩ (.int .i64 (n + 1))) := chg_set (Chg.refl _ _) (by simp)
      have OK' := Lib.hid (OK.out.chg hch (fun x hx hx' => DK.out x hx (by simp at hx'; subst hx'; simp)))
      clear OK; have OK := OK'; clear OK'
      have FK' := Lib.hid (fresh_mono (w' := (W3.setCell ⟨go, 0, none⟩ (.int .i64 (n + 1)))) FK.out (Nat.le_refl _) hch.size)
      clear FK; have FK := FK'; clear FK'
      replace hb : Below w.heap.size w (W3.setCell ⟨go, 0, none⟩ (.int .i64 (n + 1))) := Below.chg hb hch hb.size (by simp; omega)
      have hzc := hch.size
      clear hch
      generalize W3.setCell ⟨go, 0, none⟩ (.int .i64 (n + 1)) = W4 at *
      have oK : OwL 62 cLimb 3 W4 S (.slice B1 l.length k1) l := by obtain ⟨S1, rfl, h⟩ := OK.out; exact h
      have HeS := Lib.hid oK.2
      have Hown : Hid (W4.ownsRow (w.heap.size + 1 + 1) 62 3 (.slice B1 l.length k1) l.length (l.flatMap cLimb)) := own_up oK.1 (fun b hb => FK.out.2 b (by rw [HeS.out]; exact hb))
      clear oK
      have hx_c : Hid (w.heap.size ∉ (Value.slice B1 l.length k1).ownBlock.toList) := (fun hm => DK.out _ (by rw [HeS.out]; exact hm) (by simp))
      have hx_r : Hid (w.heap.size + 1 ∉ (Value.slice B1 l.length k1).ownBlock.toList) := (fun hm => DK.out _ (by rw [HeS.out]; exact hm) (by simp))
      have hx_o : Hid (go ∉ (Value.slice B1 l.length k1).ownBlock.toList) := (fun hm => DK.out _ (by rw [HeS.out]; exact hm) (by simp))
      have hwA : W4.heap.size ≤ (W4.alloc (.cells #[.int .i64 j, .int .i64 n, .int .i64 len] 62)).heap.size := by simp
      have c0 := (Lc 0 _ rfl).1
      have o0 := (Lo 0 _ rfl).1
      have o1 := (Lo 1 _ rfl).1
      have of1 := (Lo 1 _ rfl).2
      go_upto_region 6 with ((at_builtin; refine wpList_appendB _ rfl (.tmp 29) (.tmp 35) _ rfl (w.heap.size + 1 + 1) 62 i0 _ 3 24 Try.underlying24 ii0 iz0 iz1 iz2 rfl (by omega) _ l.length (l.flatMap cLimb) rfl (Hown.out.alloc _) _ 1 [.int .i64 j, .int .i64 n, .int .i64 len] rfl (rdS_new W4 #[.int .i64 j, .int .i64 n, .int .i64 len] _ 3 1 rfl (by simp [maxLen])) (by simp [Value.oneCell']) (by simp [maxLen]; omega) (by omega) (by simp; omega) ?_; intro v3 w3 own3 gr3 at3; obtain ⟨B3, k3, rfl, _, _⟩ := (RdS.of_own own3).form; have hch := Chg.of_grown gr3; have LoA : Loc (W4.alloc (.cells #[.int .i64 j, .int .i64 n, .int .i64 len] 62)) (go) [.int .i64 (n + 1), .slice B1 l.length k1] := Lo.alloc _; have ho := carryChg hch (LoA 1 _ rfl).1 hx_o.out; have hof := carryChgF hch (LoA 1 _ rfl).1 (LoA 1 _ rfl).2 hx_o.out))
      clear LoA c0 o0 o1 of1
      have hs3 := gr3.size
      replace Lc : Loc (w3.setCell ⟨go, 1, none⟩ (.slice B3 (l.length + 1) k3)) (w.heap.size) [.int .i64 n, .slice A1 l.length n1] := ((Lc.alloc _).chg hch hx_c.out).far (g := go) (i := 1) (u := .slice B3 (l.length + 1) k3) (by omega)
      replace Lr : Loc (w3.setCell ⟨go, 1, none⟩ (.slice B3 (l.length + 1) k3)) (w.heap.size + 1) [.int .i64 0, .slice none 0 0] := ((Lr.alloc _).chg hch hx_r.out).far (g := go) (i := 1) (u := .slice B3 (l.length + 1) k3) (by omega)
      replace Lo : Loc (w3.setCell ⟨go, 1, none⟩ (.slice B3 (l.length + 1) k3)) (go) [.int .i64 (n + 1), .slice B3 (l.length + 1) k3] := ((Lo.alloc _).chg hch hx_o.out).set (i := 1) (v := .slice B1 l.length k1) rfl
      have hT : ∀ b ∈ [w.heap.size, w.heap.size + 1, go], b < (W4.alloc (.cells #[.int .i64 j, .int .i64 n, .int .i64 len] 62)).heap.size ∧ b ∉ (Value.slice B1 l.length k1).ownBlock.toList := by
        intro b hb
        simp only [List.mem_cons, List.not_mem_nil, or_false] at hb
        rcases hb with rfl | rfl | rfl
        · exact ⟨by omega, hx_c.out⟩
        · exact ⟨by omega, hx_r.out⟩
        · exact ⟨by omega, hx_o.out⟩
      obtain ⟨f3, hd3⟩ := fresh_app own3 at3 hT
      have o3 : OwBody w3 (Value.slice B3 (l.length + 1) k3).ownBlock.toList (.slice B3 (l.length + 1) k3) (l ++ [(j, n, len)]) := ⟨_, rfl, by rw [List.length_append, List.flatMap_append]; exact own_mono own3 (Nat.zero_le _), rfl⟩
      have hset : Chg [go] w3 (w3.setCell ⟨go, 1, none⟩ (.slice B3 (l.length + 1) k3)) := by repeat' (first | (with_reducible exact Chg.refl _ _) | (with_reducible refine chg_set ?_ (by simp)))
      have ow4 := o3.chg hset (fun b hb hm => hd3 b hb (by simp at hm; subst hm; simp))
      have f4 := fresh_mono (w' := (w3.setCell ⟨go, 1, none⟩ (.slice B3 (l.length + 1) k3))) f3 (Nat.le_refl _) hset.size
      have hbA : Below w.heap.size w (W4.alloc (.cells #[.int .i64 j, .int .i64 n, .int .i64 len] 62)) := hb.alloc hb.size _
      replace hb : Below w.heap.size w (w3.setCell ⟨go, 1, none⟩ (.slice B3 (l.length + 1) k3)) := Below.chg (Below.chg hbA hch hbA.size (fun b hm => by have := (FK.out.2 b (by rw [HeS.out]; exact hm)).1; omega)) hset (by have := hbA.size; omega) (by simp; omega)
      have hgt : W4.heap.size ≤ (w3.setCell ⟨go, 1, none⟩ (.slice B3 (l.length + 1) k3)).heap.size := by rw [World.size_setCell]; omega
      clear o3 hset f3 own3 gr3 at3 hch ho hof hbA hs3 hT hwA HeS Hown hx_c hx_r hx_o OK FK DK
      generalize w3.setCell ⟨go, 1, none⟩ (.slice B3 (l.length + 1) k3) = W5 at *
      obtain ⟨S3, hS3⟩ : ∃ T, (Value.slice B3 (l.length + 1) k3).ownBlock.toList = T := ⟨_, rfl⟩
      rw [hS3] at ow4 f4 hd3
      clear hS3
      have OK := Lib.hid ow4
      have FK := Lib.hid f4
      have DK : Hid (∀ x ∈ S3, x ∉ [w.heap.size, w.heap.size + 1, go]) := hd3
      clear ow4 f4 hd3
      have o0 := (Lo 0 _ rfl).1
      have o1 := (Lo 1 _ rfl).1
      go_wp2_with fail
      refine twoB (specBodyOk_any (n + 1) _ (l ++ [(j, n, len)]) _ OK.out.rd) (fun W6 hq2 q => ?_) (fun W6 hq2 q => ?_)
      · skip
        clear o0 o1
        have hzq : W5.heap.size ≤ W6.heap.size := by have := q.size; (try simp at this); omega
        replace Lc := Lc.below q
        replace Lr := Lr.below q
        replace Lo := Lo.below q
        have OK' := Lib.hid (OK.out.below q)
        clear OK; have OK := OK'; clear OK'
        have FK' := Lib.hid (fresh_mono (w' := W6) FK.out (Nat.le_refl _) hzq)
        clear FK; have FK := FK'; clear FK'
        replace hb : Below w.heap.size w W6 := hb.trans (q.mono hb.size)
        clear q
        have o0 := (Lo 0 _ rfl).1
        have o1 := (Lo 1 _ rfl).1
        have r0 := (Lr 0 _ rfl).1
        have rf0 := (Lr 0 _ rfl).2
        have r1 := (Lr 1 _ rfl).1
        have rf1 := (Lr 1 _ rfl).2
        go_wp2_with fail
        refine bodyPost_ret (v := .tuple #[.agg #[.int .i64 (n + 1), .slice B3 (l.length + 1) k3], .bool true]) (by simp [results, Try.results59, go_sem, *]) rfl (add_t (and3 H1.out hq2.out) ⟨_, S3, rfl, ?_, ?_, ?_⟩)
        · exact OK.out.chg (T := [w.heap.size + 1]) (by repeat' (first | (with_reducible exact Chg.refl _ _) | (with_reducible refine chg_set ?_ (by simp)))) (fun x hx hx' => DK.out x hx (by simp at hx'; subst hx'; simp))
        · exact fresh_mono FK.out (by omega) (by simp)
        · exact Below.chg hb (S := [w.heap.size + 1]) (by repeat' (first | (with_reducible exact Chg.refl _ _) | (with_reducible refine chg_set ?_ (by simp)))) hb.size (fun x hx => by simp at hx; omega)
      · skip
        clear o0 o1
        have hzq : W5.heap.size ≤ W6.heap.size := by have := q.size; (try simp at this); omega
        replace Lc := Lc.below q
        replace Lr := Lr.below q
        replace Lo := Lo.below q
        have OK' := Lib.hid (OK.out.below q)
        clear OK; have OK := OK'; clear OK'
        have FK' := Lib.hid (fresh_mono (w' := W6) FK.out (Nat.le_refl _) hzq)
        clear FK; have FK := FK'; clear FK'
        replace hb : Below w.heap.size w W6 := hb.trans (q.mono hb.size)
        clear q
        clear OK FK DK
        have c0 := (Lc 0 _ rfl).1
        have c1 := (Lc 1 _ rfl).1
        go_wp2_with fail
        refine (l02Copy_any n _ l _ (h.below hb) hsz).mono ?_
        rintro e W7 ⟨x1, S9, rfl, ow, f1, q⟩
        clear c0 c1
        obtain ⟨B9, k9, rfl⟩ := ow.rd.forms
        have hzq : W6.heap.size ≤ W7.heap.size := by have := q.size; (try simp at this); omega
        replace Lc := Lc.below q
        replace Lr := Lr.below q
        replace Lo := Lo.below q
        replace hb : Below w.heap.size w W7 := hb.trans (q.mono hb.size)
        have hlow : W6.heap.size ≤ W6.heap.size := by first | exact Nat.le_refl _ | (simp; done) | (simp; omega) | omega
        have FM := Lib.hid (fresh_mono f1 hlow (Nat.le_refl _))
        have DM : Hid (∀ x ∈ S9, x ∉ [w.heap.size, w.heap.size + 1, go]) := (fun x hx => by have := (FM.out.2 x hx).1; simp; omega)
        have OM := Lib.hid ow
        clear ow f1 hlow
        clear q
        have r0 := (Lr 0 _ rfl).1
        have rf0 := (Lr 0 _ rfl).2
        have r1 := (Lr 1 _ rfl).1
        have rf1 := (Lr 1 _ rfl).2
        go_wp2_with fail
        refine bodyPost_ret (v := .tuple #[.agg #[.int .i64 n, .slice B9 l.length k9], .bool false]) (by simp [results, Try.results59, go_sem, *]) rfl (add_f (by rw [addB, hq2.out, Bool.and_false]) ⟨_, S9, rfl, ?_, ?_, ?_⟩)
        · exact OM.out.chg (T := [w.heap.size + 1]) (by repeat' (first | (with_reducible exact Chg.refl _ _) | (with_reducible refine chg_set ?_ (by simp)))) (fun x hx hx' => DM.out x hx (by simp at hx'; subst hx'; simp))
        · exact fresh_mono FM.out (by omega) (by simp)
        · exact Below.chg hb (S := [w.heap.size + 1]) (by repeat' (first | (with_reducible exact Chg.refl _ _) | (with_reducible refine chg_set ?_ (by simp)))) hb.size (fun x hx => by simp at hx; omega)
    · skip
      refine (l02Copy_any n _ l _ (h.below hb) hsz).mono ?_
      rintro e W2 ⟨x1, S9, rfl, ow, f1, q⟩
      clear c0 c1
      obtain ⟨B9, k9, rfl⟩ := ow.rd.forms
      have hzq : W1.heap.size ≤ W2.heap.size := by have := q.size; (try simp at this); omega
      replace Lc := Lc.below q
      replace Lr := Lr.below q
      replace hb : Below w.heap.size w W2 := hb.trans (q.mono hb.size)
      have hlow : W1.heap.size ≤ W1.heap.size := by first | exact Nat.le_refl _ | (simp; done) | (simp; omega) | omega
      have FM := Lib.hid (fresh_mono f1 hlow (Nat.le_refl _))
      have DM : Hid (∀ x ∈ S9, x ∉ [w.heap.size, w.heap.size + 1]) := (fun x hx => by have := (FM.out.2 x hx).1; simp; omega)
      have OM := Lib.hid ow
      clear ow f1 hlow
      clear q
      have r0 := (Lr 0 _ rfl).1
      have rf0 := (Lr 0 _ rfl).2
      have r1 := (Lr 1 _ rfl).1
      have rf1 := (Lr 1 _ rfl).2
      go_wp2_with fail
      refine bodyPost_ret (v := .tuple #[.agg #[.int .i64 n, .slice B9 l.length k9], .bool false]) (by simp [results, Try.results59, go_sem, *]) rfl (add_f (by rw [addB, hc.out, Bool.and_false]; rfl) ⟨_, S9, rfl, ?_, ?_, ?_⟩)
      · exact OM.out.chg (T := [w.heap.size + 1]) (by repeat' (first | (with_reducible exact Chg.refl _ _) | (with_reducible refine chg_set ?_ (by simp)))) (fun x hx hx' => DM.out x hx (by simp at hx'; subst hx'; simp))
      · exact fresh_mono FM.out (by omega) (by simp)
      · exact Below.chg hb (S := [w.heap.size + 1]) (by repeat' (first | (with_reducible exact Chg.refl _ _) | (with_reducible refine chg_set ?_ (by simp)))) hb.size (fun x hx => by simp at hx; omega)
  · skip
    have Lc : Loc W1 (w.heap.size) [.int .i64 n, .slice A1 l.length n1] := by have := ((Loc.new w #[.int .i64 n, .slice A1 l.length n1] 26).alloc _).below q; simpa using this
    have Lr : Loc W1 (w.heap.size + 1) [.int .i64 0, .slice none 0 0] := by have := (Loc.new (w.alloc (.cells #[.int .i64 n, .slice A1 l.length n1] 26)) #[.int .i64 0, .slice none 0 0] 26).below q; simpa using this
    have hb : Below w.heap.size w W1 := Below.trans (by (repeat' (first | (with_reducible exact Below.refl _ _) | (with_reducible assumption) | (with_reducible refine Below.setCell ?_ (by first | omega | (simp; omega) | (simp; done)) _) | (with_reducible refine Below.alloc ?_ (by first | omega | (simp; omega) | (simp; done)) _) | (with_reducible refine Below.drew ?_) | (with_reducible refine below_drewN ?_ _)))) (q.mono (by simp <;> omega))
    have hz0 : w.heap.size + 1 + 1 ≤ W1.heap.size := by have := q.size; simp at this; omega
    clear q
    have c0 := (Lc 0 _ rfl).1
    have c1 := (Lc 1 _ rfl).1
    go_wp2_with fail
    refine (l02Copy_any n _ l _ (h.below hb) hsz).mono ?_
    rintro e W2 ⟨x1, S9, rfl, ow, f1, q⟩
    clear c0 c1
    obtain ⟨B9, k9, rfl⟩ := ow.rd.forms
    have hzq : W1.heap.size ≤ W2.heap.size := by have := q.size; (try simp at this); omega
    replace Lc := Lc.below q
    replace Lr := Lr.below q
    replace hb : Below w.heap.size w W2 := hb.trans (q.mono hb.size)
    have hlow : W1.heap.size ≤ W1.heap.size := by first | exact Nat.le_refl _ | (simp; done) | (simp; omega) | omega
    have FM := Lib.hid (fresh_mono f1 hlow (Nat.le_refl _))
    have DM : Hid (∀ x ∈ S9, x ∉ [w.heap.size, w.heap.size + 1]) := (fun x hx => by have := (FM.out.2 x hx).1; simp; omega)
    have OM := Lib.hid ow
    clear ow f1 hlow
    clear q
    have r0 := (Lr 0 _ rfl).1
    have rf0 := (Lr 0 _ rfl).2
    have r1 := (Lr 1 _ rfl).1
    have rf1 := (Lr 1 _ rfl).2
    go_wp2_with fail
    refine bodyPost_ret (v := .tuple #[.agg #[.int .i64 n, .slice B9 l.length k9], .bool false]) (by simp [results, Try.results59, go_sem, *]) rfl (add_f (by rw [addB, hq.out]; rfl) ⟨_, S9, rfl, ?_, ?_, ?_⟩)
    · exact OM.out.chg (T := [w.heap.size + 1]) (by repeat' (first | (with_reducible exact Chg.refl _ _) | (with_reducible refine chg_set ?_ (by simp)))) (fun x hx hx' => DM.out x hx (by simp at hx'; subst hx'; simp))
    · exact fresh_mono FM.out (by omega) (by simp)
    · exact Below.chg hb (S := [w.heap.size + 1]) (by repeat' (first | (with_reducible exact Chg.refl _ _) | (with_reducible refine chg_set ?_ (by simp)))) hb.size (fun x hx => by simp at hx; omega)
theorem add2 (n j len : Int) (l : List RLimb) : ∃ n' ok l', (szBody l' ≤ szBody l ∨ szBody l' ≤ 1000) ∧
    (∀ W v1, RdBody W v1 l → szBody l ≤ 1048576 → Calls Try.prog 59 #[.agg #[.int .i64 n, v1], .int .i64 j, .int .i64 len] W (RetBody n' ok l' W)) ∧
    (∀ W v1, RdBody W v1 l → szBody l ≤ 1048576 → Calls Try.prog 10 #[.agg #[.int .i64 n, v1], .int .i64 j, .int .i64 len] W (RetBody n' ok l' W)) :=
  ⟨_, _, _, add_sz n l j len, fun W v1 h hs => specAddLimb_any n j len v1 l W h hs, fun W v1 h hs => implAddLimb_any n j len v1 l W h hs⟩
end Go.Proofs.Ytomghkfkbpkbdaa

namespace Go.Proofs.Ytomghkfkbpkbdaa
open Go.RowKit
def eqB (n x : Int) : Bool := decide (x = n)
def hasB (l : List Int) (n : Int) : Bool := l.any (eqB n)
theorem hasB_iff {l : List Int} {n : Int} : hasB l n = true ↔ n ∈ l := by
  unfold hasB
  rw [List.any_eq_true]
  constructor
  · rintro ⟨x, hx, e⟩; have := of_decide_eq_true e; subst this; exact hx
  · intro h; exact ⟨n, h, decide_eq_true rfl⟩
set_option maxHeartbeats 1000000 in
theorem has_any (v : Value) (l : List Int) (n : Int) (w : World) (h : RdL cInt 1 w v l) :
    Calls Try.prog 9 #[v, .int .i64 n] w fun e w' => e = .returned (.bool (hasB l n)) ∧ w = w' := by
  obtain ⟨A, c, rfl, h1, h2⟩ := h.form
  go_enter Try.func9, Try.ntmps9
  go_wp2_with fail
  go_loop [5] (fun i => ∃ k : Nat, k ≤ l.length ∧ i = .int .i64 k ∧ Hid ((l.take k).any (eqB n) = false)) (fun i => l.length - (intOf i).toNat)
  case atStart => exact ⟨0, Nat.zero_le _, rfl, by rfl⟩
  case round =>
    obtain ⟨k, hk, rfl, hall⟩ := hrel
    by_cases hlt : k < l.length
    · obtain ⟨g, off, rfl, hg, hc⟩ := h.cell cInt_len (by omega) hlt
      have k0 := hc 0 _ rfl
      simp only [Nat.add_zero, Nat.mul_one] at k0
      clear hc
      by_cases he : l[k] = n
      · have he' : (l[k] == n) = true := by rw [beq_iff_eq]; exact he
        have He := Lib.hid he
        clear he
        go_wp2_with fail
        go_ret
        exact ⟨ret_bool (any_true_at hlt (decide_eq_true He.out)).symm, rfl⟩
      · have he' : (l[k] == n) = false := by rw [beq_eq_false_iff_ne]; exact he
        have He := Lib.hid he
        clear he
        go_wp2_with fail
        go_round
        case rel => exact ⟨k + 1, by omega, by go_num, any_take_succ hlt hall.out (decide_eq_false He.out)⟩
        case measure => simp [intOf]; omega
    · go_wp2_with fail
      go_ret
      exact ⟨ret_bool (any_take_end hlt hall.out).symm, rfl⟩
theorem cords_ne {n : Nat} {ht : Int} {d1 : List Int} {d2 : List RCord} (h : CtlOk n ht d1 d2) {i k : Nat} (hik : i < k) (hk : k < d2.length) : (d2[i]'(by omega)).2.1 ≠ d2[k].2.1 := List.pairwise_iff_getElem.1 h.once i k (by omega) hk hik
end Go.Proofs.Ytomghkfkbpkbdaa

namespace Go.Proofs.Ytomghkfkbpkbdaa
open Go.RowKit
def slLen : Value → Nat
  | .slice _ n _ => n
  | _ => 0
def boolN : Value → Nat
  | .bool b => if b = true then 1 else 0
  | _ => 0
/-- the blocks of two rows lie apart -/
def Apart (v u : Value) : Prop := ∀ b ∈ v.ownBlock.toList, b ∉ u.ownBlock.toList
/-- how far the exchanges are: d done, o the order now -/
structure SortSt (m : Nat) (l d o : List Int) : Prop where
  ord : IsOrd m o
  eq : swapsF l = d ++ swapsF o
theorem SortSt.len {m : Nat} {l d o : List Int} (h : SortSt m l d o) : d.length + inv o = inv l := by
  have := congrArg List.length h.eq
  rw [swapsF_len, List.length_append, swapsF_len] at this
  exact this.symm
theorem SortSt.step {m : Nat} {l d o : List Int} (h : SortSt m l d o) {k : Nat} (hk : FirstDesc o k) : SortSt m l (d ++ [(k : Int)]) (swapL o k) := by
  refine ⟨h.ord.swap (by have := hk.lt; rwa [h.ord.len] at this), ?_⟩
  rw [h.eq, swapsF_step hk, List.append_assoc]; rfl
theorem inv_49 {m : Nat} {l : List Int} (h : IsOrd m l) (hm : m ≤ 7) : inv l ≤ 49 := by
  have h1 := inv_le l
  rw [h.len] at h1
  have : m * m ≤ 7 * 7 := Nat.mul_le_mul hm hm
  omega
theorem SortSt.end_ {m : Nat} {l d o : List Int} (h : SortSt m l d o) (h0 : inv o = 0) : swapsF l = d := by rw [h.eq, swapsF_zero h0, List.append_nil]
def UpTo (o : List Int) (k : Nat) : Prop := ∀ j (_ : j < k) (h : j + 1 < o.length), o[j] < o[j + 1]
theorem UpTo.zero (o : List Int) : UpTo o 0 := fun j h => absurd h (by omega)
theorem UpTo.succ {o : List Int} {k : Nat} (h : UpTo o k) (hk : k + 1 < o.length) (hx : o[k] < o[k + 1]) : UpTo o (k + 1) := fun j hj h1 => by
  rcases Nat.lt_succ_iff_lt_or_eq.1 hj with h2 | rfl
  · exact h j h2 h1
  · exact hx
theorem UpTo.all {o : List Int} {k : Nat} (h : UpTo o k) (hk : o.length ≤ k + 1) : inv o = 0 := no_desc o (fun j hj => h j (by omega) hj)
theorem UpTo.first {m : Nat} {o : List Int} {k : Nat} (h : UpTo o k) (ho : IsOrd m o) (hk : k + 1 < o.length) (hx : ¬ o[k] < o[k + 1]) : FirstDesc o k :=
  ⟨hk, fun j hj => h j hj (by omega), by have := ho.ne (i := k) (j := k + 1) (by omega) hk (by omega); omega⟩
theorem own_lt {w : World} {B : Nat} {e : TypeId} {size n : Nat} {v : Value} {xs : List Value} (h : w.ownsRow B e size v n xs) : ∀ b ∈ v.ownBlock.toList, B ≤ b ∧ b < w.heap.size := fun b hb => (fresh_of h).2 b hb
/-- a row that has come up later lies apart from one that stood before -/
theorem apart_new {w w' : World} {B B' n n' : Nat} {e e' : TypeId} {size size' : Nat} {v u : Value} {xs xs' : List Value} (h : w'.ownsRow B e size v n xs) (hu : w.ownsRow B' e' size' u n' xs') (hB : w.heap.size ≤ B) : Apart v u := fun b hb hb' => by
  have h1 := (own_lt h b hb).1
  have h2 := (own_lt hu b hb').2
  omega
/-- what a row is apart from, may grow -/
theorem apart_grow {w : World} {B n : Nat} {e : TypeId} {size : Nat} {v u u' : Value} {xs : List Value} (h : w.ownsRow B e size v n xs) (hap : Apart v u) {N : Nat} (hN : w.heap.size ≤ N) (hat : u'.ownBlock = u.ownBlock ∨ u'.ownBlock = some N) : Apart v u' := fun b hb hb' => by
  rcases hat with e | e
  · rw [e] at hb'; exact hap b hb hb'
  · rw [e] at hb'
    have h1 := (own_lt h b hb).2
    simp at hb'
    omega
set_option maxHeartbeats 4000000 in
set_option maxRecDepth 100000 in
theorem specSorting_any (m : Nat) (v : Value) (l : List Int) (w : World) (h : RdL cInt 1 w v l) (hord : IsOrd m l) (hm : 1 ≤ m ∧ m ≤ 7) :
    Calls Try.prog 94 #[v] w fun e w' => ∃ v', e = .returned v' ∧ w'.ownsRow w.heap.size 3 1 v' (swapsF l).length ((swapsF l).flatMap cInt) ∧ Below w.heap.size w w' := by
  have h0 := h
  obtain ⟨A, c, rfl, h1, h2⟩ := h.form
  obtain ⟨iI, hiI, hzI0, hzI1, hzI2⟩ := info_parts infoInt
  have hl7 : l.length ≤ 7 := by rw [hord.len]; omega
  have hi49 := inv_49 hord hm.2
  have HO := Lib.hid hord
  have HS0 : Hid (SortSt m l [] l) := ⟨hord, rfl⟩
  clear hord
  have hownA := World.ownsRow_made (size := 1) (e := 3) w #[] 0 (Nat.le_refl _) (by simp [maxLen]) rfl
  have hown1 : ((w.alloc (.cells #[] 3)).alloc (.cells #[] 3)).ownsRow (w.heap.size + 1) 3 1 (.slice (some ⟨w.heap.size + 1, 0, none⟩) 0 0) 0 [] := by
    have := World.ownsRow_made (size := 1) (e := 3) (w.alloc (.cells #[] 3)) #[] 0 (Nat.le_refl _) (by simp [maxLen]) rfl
    simpa using this
  have hownB := hownA.alloc (.cells #[] 3)
  have hal : Below w.heap.size w ((w.alloc (.cells #[] 3)).alloc (.cells #[] 3)) := ((Below.refl _ _).alloc (Nat.le_refl _) _).alloc (by simp) _
  have h3 := h0.below hal
  go_enter Try.func94, Try.ntmps94
  go_wp2_with (at_builtin; refine wpList_append_empty _ rfl (.tmp 7) (.tmp 8) _ rfl (w.heap.size + 1) 3 iI _ 1 8 Try.underlying28 hiI hzI0 hzI1 hzI2 rfl (by omega) (w.heap.size + 1) rfl hown1 _ l.length (l.flatMap cInt) rfl h3 (oneCell_flat cInt_one l) (by simp [maxLen] <;> omega) (by omega) (by simp) ?_; intro v1 w1 own1 b1 at1)
  have hb1 : Below w.heap.size w w1 := Below.trans hal (b1.mono (by simp <;> omega))
  have hz1 := hb1.size
  have hp1 := own_below hownB b1
  have hap1 : Apart v1 (.slice (some ⟨w.heap.size, 0, none⟩) 0 0) := fun b hb hb' => by
    have := (own_lt own1 b hb).1
    simp [Value.ownBlock] at hb'
    omega
  have HAP := Lib.hid hap1
  have own1' := own_mono own1 (Nat.zero_le _)
  clear hownA hown1 hownB hal h3 b1 at1 own1 hap1
  obtain ⟨A1, c1, rfl, _, _⟩ := (RdS.of_own own1').form
  go_wp2_with fail
  go_loopw [3, 4, 5] (fun p q _ wr => ∃ d o : List Int, wr.ownsRow w.heap.size 3 1 p d.length (d.flatMap cInt) ∧ wr.ownsRow 0 3 1 q o.length (o.flatMap cInt) ∧ Hid (Apart q p) ∧ Hid (SortSt m l d o) ∧ Below w.heap.size w wr) (fun p _ _ _ => 49 - slLen p)
  case atStart => exact ⟨[], l, hp1, own1', HAP, HS0, hb1⟩
  case round =>
    obtain ⟨d, o, hp, hq, hap, hst, hb⟩ := hrel
    clear hp1 own1' HAP HS0 hb1 hz1
    have hrq : RdL cInt 1 wr _ o := RdS.of_own hq
    obtain ⟨Ap, cp, rfl, _, _⟩ := (RdS.of_own hp).form
    obtain ⟨Aq, cq, rfl, _, _⟩ := hrq.form
    have hsl := hst.out.len
    have hol : o.length ≤ 7 := by rw [hst.out.ord.len]; omega
    have Hok := Lib.hid (hst.out.ord.okB hm)
    have hz := hb.size
    have hC := specCountInv_any _ o wr hrq Hok.out
    obtain ⟨I, hI⟩ : ∃ I, inv o = I := ⟨_, rfl⟩
    rw [hI] at hC hsl
    have HI := Lib.hid hI
    clear hI
    have hd49 : d.length + I ≤ 49 := by omega
    clear hsl
    go_wp2_with fail
    refine hC.mono ?_
    rintro e w2 ⟨rfl, hb2⟩
    have hz2 := hb2.size
    have hp2 := own_below hp hb2
    have hq2 := own_below hq hb2
    have hrq2 : RdL cInt 1 w2 _ o := RdS.of_own hq2
    have hbb : Below w.heap.size w w2 := bl_trans hb hb2
    clear hp hq hC hb hb2
    by_cases hI0 : I = 0
    · subst hI0
      clear hd49
      go_wp2_with fail
      go_ret
      rw [hst.out.end_ HI.out]
      exact ⟨_, rfl, hp2, hbb⟩
    · have hI1 : 0 < I := by omega
      have hol2 : 2 ≤ o.length := by
        apply Classical.byContradiction
        intro hn
        have := (UpTo.zero o).all (by omega)
        rw [HI.out] at this
        omega
      clear hI0
      have hIi : (0 : Int) < (I : Int) := by omega
      go_wp2_with fail
      go_loopw [5] (fun i wi => ∃ (k d2 : Nat), i = .int .i64 k ∧ k + 1 < o.length ∧ Hid (UpTo o k) ∧ wi = w2.drewN d2) (fun i _ => 7 - (intOf i).toNat)
      case atStart => exact ⟨0, 0, rfl, by omega, UpTo.zero o, rfl⟩
      case round =>
        obtain ⟨k, d2, rfl, hk, hup, rfl⟩ := hrel
        obtain ⟨g1, off1, rfl, hg1, hc1⟩ := hrq2.cell (k := k) cInt_len (by omega) (by omega)
        obtain ⟨g2, off2, hA2, hg2, hc2⟩ := hrq2.cell (k := k + 1) cInt_len (by omega) hk
        injection hA2 with hA2
        injection hA2 with e1 e2
        subst e1 e2
        have k1 := hc1 0 _ rfl
        have k2 := hc2 0 _ rfl
        simp only [Nat.add_zero, Nat.mul_one] at k1 k2
        clear hc1 hc2
        have e1 : ((k : Int) + 1).toNat = k + 1 := by omega
        have HX : Hid (o[k] < o[k + 1] → UpTo o (k + 1)) := fun hx => hup.out.succ hk hx
        have HY : Hid (¬ o[k] < o[k + 1] → FirstDesc o k) := fun hx => hup.out.first hst.out.ord hk hx
        by_cases hx : o[k] < o[k + 1]
        · have hk2 : k + 1 + 1 < o.length := by
            apply Classical.byContradiction
            intro hn
            have := (HX.out hx).all (by omega)
            rw [HI.out] at this
            omega
          have hxu := HX.out hx
          have HXU := Lib.hid hxu
          clear hxu HX HY
          have hx' : decide (o[k] < o[k + 1]) = true := decide_eq_true hx
          generalize o[k + 1] = y at *
          generalize o[k] = x at *
          go_wp2_with fail
          go_quiet (fail)
          rename_i nq
          go_wp2_with fail
          go_roundw
          case rel => exact ⟨k + 1, _, by go_num, hk2, HXU.out, rfl⟩
          case measure => simp [intOf]; omega
        · have hfd := HY.out hx
          have HFD := Lib.hid hfd
          clear hfd HX HY
          have hx' : decide (o[k] < o[k + 1]) = false := decide_eq_false hx
          generalize o[k + 1] = y at *
          generalize o[k] = x at *
          go_wp2_with fail
          go_quiet (fail)
          rename_i nq
          have hq3 := own_below hq2 (below_drewN (Below.refl w2.heap.size w2) nq)
          go_wp2_with fail
          refine (specSwap_any _ o k _ (hrq2.below (below_drewN (Below.refl _ _) _)) Hok.out hk).mono ?_
          rintro e w3 ⟨v3, rfl, own3, hb3⟩
          obtain ⟨A3, c3, rfl, _, _⟩ := (RdS.of_own own3).form
          have hb23 : Below w2.heap.size w2 w3 := bl_trans (below_drewN (Below.refl _ _) _) hb3
          have hz3 := hb23.size
          have hp3 := own_below hp2 hb23
          have own3' : w3.ownsRow w2.heap.size 3 1 (.slice A3 o.length c3) (swapL o k).length ((swapL o k).flatMap cInt) := by rw [swapL_len]; exact own_mono own3 (by simp)
          have hap3 := Lib.hid (apart_new own3' hp2 (Nat.le_refl _))
          have hbb3 : Below w.heap.size w w3 := bl_trans hbb hb23
          have HS3 : Hid (SortSt m l (d ++ [(k : Int)]) (swapL o k)) := hst.out.step HFD.out
          have H3 := Lib.hid own3'
          clear own3 own3' hb3 hb23 hq3 hq2 hrq2 hrq
          go_wp2_with (at_builtin; refine wpList_appendB _ rfl (.tmp 31) (.tmp 33) _ rfl w.heap.size 3 iI _ 1 8 Try.underlying28 hiI hzI0 hzI1 hzI2 rfl (by omega) _ d.length (d.flatMap cInt) rfl (hp3.alloc _) _ 1 [.int .i64 k] rfl (rdS_new w3 #[.int .i64 k] _ 1 1 rfl (by simp [maxLen])) (by simp [Value.oneCell']) (by simp [maxLen]; omega) (by omega) (by simp; omega) ?_; intro v4 w4 own4 gr4 at4)
          obtain ⟨A4, c4, rfl, _, _⟩ := (RdS.of_own own4).form
          have hch := Chg.of_grown gr4
          have hb4 := below_own (hp3.alloc _) gr4 (by simp; omega)
          have q4 := Lib.hid (own_chg (H3.out.alloc _) hch hap3.out)
          have ap4 := Lib.hid (apart_grow (H3.out.alloc _) hap3.out (Nat.le_refl _) at4)
          clear gr4 at4 hch
          go_wp2_with fail
          go_roundw
          case rel => exact ⟨d ++ [(k : Int)], swapL o k, by rw [List.length_append, List.flatMap_append]; exact own4, own_mono q4.out (Nat.zero_le _), ap4.out, HS3.out, (hbb3.alloc (by omega) _).trans hb4⟩
          case measure => simp [slLen]; omega
/-- what leads home, from the first k exchanges -/
def wayL (sw : List Int) : List RCross := sw.map (fun k => (k, true))
theorem wayL_snoc (sw : List Int) {k : Nat} (h : k < sw.length) : wayL (sw.take (k + 1)) = wayL (sw.take k) ++ [(sw[k], true)] := by unfold wayL; rw [take_snoc_l sw h, List.map_append]; rfl
theorem wayL_len (sw : List Int) : (wayL sw).length = sw.length := by simp [wayL]
set_option maxHeartbeats 4000000 in
set_option maxRecDepth 100000 in
theorem specBringHome_any (n : Int) (v : Value) (cs : List RCross) (w : World) (h : RdL cCross 2 w v cs) :
    Calls Try.prog 81 #[.int .i64 n, v] w fun e w' => ∃ v', e = .returned (.tuple #[v', .bool (crossesB n cs)]) ∧ w'.ownsRow w.heap.size 73 2 v' (homeL n cs).length ((homeL n cs).flatMap cCross) ∧ Below w.heap.size w w' := by
  have h0 := h
  obtain ⟨A, c, rfl, h1, h2⟩ := h.form
  obtain ⟨iX, hiX, hzX0, hzX1, hzX2⟩ := info_parts infoCross
  have hownA := World.ownsRow_made (size := 2) (e := 73) w #[] 0 (Nat.le_refl _) (by simp [maxLen]) rfl
  have hal : Below w.heap.size w (w.alloc (.cells #[] 73)) := (Below.refl _ _).alloc (Nat.le_refl _) _
  have h3 := h0.below hal
  go_enter Try.func81, Try.ntmps81
  go_wp2_with fail
  refine twoB (specCrossesOk_any n _ cs _ h3) (fun w1 hq hb1 => ?_) (fun w1 hq hb1 => ?_)
  · obtain ⟨hn, hlen, hcs⟩ := crosses_len hq.out
    obtain ⟨m, rfl⟩ := Int.eq_ofNat_of_zero_le (show 0 ≤ n by omega)
    have hm : 1 ≤ m ∧ m ≤ 7 := by omega
    have hz1 := hb1.size
    simp at hz1
    have hb01 : Below w.heap.size w w1 := bl_trans hal hb1
    have hown1 := own_below hownA hb1
    have hO := specOrderAfter_any (m : Int) _ cs w1 (h0.below hb01)
    rw [ordR_t hq.out] at hO
    have HOrd := Lib.hid (IsOrd.order hcs)
    have HQ := Lib.hid hq.out
    have HH := Lib.hid (homeL_t hq.out)
    have Hm := Lib.hid hm
    clear hal h3 hownA hb1 hq hcs hn
    go_wp2_with fail
    refine hO.mono ?_
    rintro e w2 ⟨v2, rfl, own2, hb2⟩
    have hr2 : RdL cInt 1 w2 v2 (orderF m cs) := RdS.of_own own2
    have hb02 : Below w.heap.size w w2 := bl_trans hb01 hb2
    have hz2 := hb2.size
    have hown2 := own_below hown1 hb2
    clear own2 hb2 hO hown1 hb01
    obtain ⟨A2, c2, rfl, _, _⟩ := hr2.form
    have hi49 := inv_49 HOrd.out Hm.out.2
    rw [← swapsF_len] at hi49
    go_wp2_with fail
    refine (specSorting_any m _ (orderF m cs) _ hr2 HOrd.out Hm.out).mono ?_
    rintro e w3 ⟨v3, rfl, own3, hb3⟩
    have hb03 : Below w.heap.size w w3 := bl_trans hb02 hb3
    have hz3 := hb3.size
    have hown3 := own_below hown2 hb3
    have hap3 := Lib.hid (apart_new own3 hown2 (Nat.le_refl _))
    have own3' := own_mono own3 (Nat.zero_le _)
    obtain ⟨sw, hsw⟩ : ∃ sw, swapsF (orderF m cs) = sw := ⟨_, rfl⟩
    rw [hsw] at own3' hi49
    have HH2 : Hid (homeL (m : Int) cs = wayL sw) := by rw [← hsw]; exact HH.out
    clear own3 hb3 hr2 hown2 hb02 HH hsw
    obtain ⟨A3, c3, rfl, _, _⟩ := (RdS.of_own own3').form
    go_wp2_with fail
    go_loopw [6, 8] (fun p i wr => ∃ k : Nat, k ≤ sw.length ∧ i = .int .i64 k ∧ wr.ownsRow w.heap.size 73 2 p k ((wayL (sw.take k)).flatMap cCross) ∧ wr.ownsRow 0 3 1 (.slice A3 sw.length c3) sw.length (sw.flatMap cInt) ∧ Hid (Apart (.slice A3 sw.length c3) p) ∧ Below w.heap.size w wr) (fun _ i _ => sw.length - (intOf i).toNat)
    case atStart => exact ⟨0, Nat.zero_le _, rfl, hown3, own3', hap3, hb03⟩
    case round =>
      obtain ⟨k, hk, rfl, hp, hs, hap, hb⟩ := hrel
      clear hown3 own3' hap3 hb03
      have hz := hb.size
      obtain ⟨Ap, cp, rfl, _, _⟩ := (RdS.of_own hp).form
      by_cases hlt : k < sw.length
      · have hrs : RdL cInt 1 wr (.slice A3 sw.length c3) sw := RdS.of_own hs
        obtain ⟨g, off, rfl, hg, hc⟩ := hrs.cell cInt_len (by omega) hlt
        have k0 := hc 0 _ rfl
        simp only [Nat.add_zero, Nat.mul_one] at k0
        clear hc
        have Hw := Lib.hid (wayL_snoc sw hlt)
        generalize sw[k] = x at *
        go_wp2_with (at_builtin; refine wpList_appendB _ rfl (.tmp 25) (.tmp 31) _ rfl w.heap.size 73 iX _ 2 16 Try.underlying38 hiX hzX0 hzX1 hzX2 rfl (by omega) _ k ((wayL (sw.take k)).flatMap cCross) rfl (hp.alloc _) _ 1 [.int .i64 x, .bool true] rfl (rdS_new wr #[.int .i64 x, .bool true] _ 2 1 rfl (by simp [maxLen])) (by simp [Value.oneCell']) (by simp [maxLen]; omega) (by omega) (by simp; omega) ?_; intro v4 w4 own4 gr4 at4)
        obtain ⟨A4, c4, rfl, _, _⟩ := (RdS.of_own own4).form
        have hch := Chg.of_grown gr4
        have hb4 := below_own (hp.alloc _) gr4 (by simp; omega)
        have q4 := Lib.hid (own_chg (hs.alloc _) hch hap.out)
        have ap4 := Lib.hid (apart_grow (hs.alloc _) hap.out (Nat.le_refl _) at4)
        clear gr4 at4 hch
        go_wp2_with fail
        go_roundw
        case rel => exact ⟨k + 1, by omega, by go_num, by rw [Hw.out, List.flatMap_append]; exact own4, q4.out, ap4.out, (hb.alloc (by omega) _).trans hb4⟩
        case measure => simp [intOf]; omega
      · obtain rfl : k = sw.length := by omega
        rw [List.take_length] at hp
        go_wp2_with fail
        go_ret2
        rw [HQ.out, HH2.out, wayL_len]
        exact ⟨_, rfl, hp, hb⟩
  · have hb01 : Below w.heap.size w w1 := bl_trans hal hb1
    have hown1 := own_below hownA hb1
    clear hal h3 hownA hb1
    go_wp2_with fail
    go_ret2
    rw [hq.out, homeL_f hq.out]
    exact ⟨_, rfl, hown1, hb01⟩
end Go.Proofs.Ytomghkfkbpkbdaa

namespace Go.Proofs.Ytomghkfkbpkbdaa
open Go.RowKit
theorem touch_t1 {A B L j : Int} (h : A = j) : touchB (A, B, L) j = true := by unfold touchB; rw [decide_eq_true h]; rfl
theorem touch_t2 {A B L j : Int} (h : B = j) : touchB (A, B, L) j = true := by unfold touchB; rw [decide_eq_true h, Bool.or_true]
theorem touch_f {A B L j : Int} (h1 : ¬ A = j) (h2 : ¬ B = j) : touchB (A, B, L) j = false := by unfold touchB; rw [decide_eq_false h1, decide_eq_false h2]; rfl
set_option maxHeartbeats 4000000 in
set_option maxRecDepth 100000 in
theorem limbsAt_t (m j : Nat) (v : Value) (l : List RLimb) (w : World) (h : RdL cLimb 3 w v l) (hq : bodyB m l = true) (hj : j < m) :
    Calls Try.prog 8 #[.agg #[.int .i64 m, v], .int .i64 j] w fun e w' => ∃ v', e = .returned v' ∧ w'.ownsRow w.heap.size 3 1 v' (limbsTo l j l.length).length ((limbsTo l j l.length).flatMap cInt) ∧ Below w.heap.size w w' := by
  have h0 := h
  obtain ⟨A, c, rfl, h1, h2⟩ := h.form
  obtain ⟨i0, hi0, hz0, hz1, hz2⟩ := info_parts infoInt
  have hl11 := (body_bd hq).2.2.2
  have hbW : Below w.heap.size w (w.alloc (.cells #[.int .i64 m, .slice A l.length c] 26)) := by (repeat' (first | (with_reducible exact Below.refl _ _) | (with_reducible assumption) | (with_reducible refine Below.setCell ?_ (by first | omega | (simp; omega) | (simp; done)) _) | (with_reducible refine Below.alloc ?_ (by first | omega | (simp; omega) | (simp; done)) _) | (with_reducible refine Below.drew ?_) | (with_reducible refine below_drewN ?_ _)))
  have Lb0 : Loc (w.alloc (.cells #[.int .i64 m, .slice A l.length c] 26)) w.heap.size [.int .i64 m, .slice A l.length c] := Loc.new w #[.int .i64 m, .slice A l.length c] 26
  go_enter Try.func8, Try.ntmps8
  go_upto_region 1 with (fail)
  obtain ⟨gb, hgb⟩ : ∃ g, w.heap.size = g := ⟨_, rfl⟩
  rw [hgb] at Lb0 ⊢
  generalize w.alloc (.cells #[.int .i64 m, .slice A l.length c] 26) = W at *
  have hC := isJoint_any m j (.slice A l.length c) l W (h0.below (by rw [hgb] at hbW; rw [hgb]; exact hbW))
  rw [show (bodyB (m : Int) l && inB (j : Int) 0 ((m : Int) - 1)) = true by rw [hq, inB_iff.2 (by omega)]; rfl] at hC
  have b0 := (Lb0 0 _ rfl).1
  have b1 := (Lb0 1 _ rfl).1
  go_wp2_with fail
  refine hC.mono ?_
  rintro e w1 ⟨rfl, hb1⟩
  have Lb := Lb0.below hb1
  rw [← hgb] at Lb ⊢
  have hb01 := bl_trans hbW hb1
  have hz1' := hb01.size
  clear hC b0 b1 Lb0 hbW hb1 hgb
  have b1 := ((Lb.alloc (.cells #[] 3)) 1 _ rfl).1
  go_wp2_with fail
  go_loopw [5, 6, 7, 16] (fun p _ _ i wr => ∃ k : Nat, k ≤ l.length ∧ i = .int .i64 k ∧ wr.ownsRow w.heap.size 3 1 p (limbsTo l j k).length ((limbsTo l j k).flatMap cInt) ∧ Below w.heap.size w wr) (fun _ _ _ i _ => l.length - (intOf i).toNat)
  case atStart => exact ⟨0, Nat.zero_le _, rfl, own_mono (World.ownsRow_made (size := 1) (e := 3) w1 #[] 0 (Nat.le_refl _) (by simp [maxLen]) rfl) (by omega), hb01.alloc hz1' _⟩
  case round =>
    obtain ⟨k, hk, rfl, hown, hb⟩ := hrel
    have hz := hb.size
    clear b1
    by_cases hlt : k < l.length
    · obtain ⟨g, off, rfl, hg, hc⟩ := (h0.below hb).cell cLimb_len (by omega) hlt
      have k0 := hc 0 _ rfl
      have k1 := hc 1 _ rfl
      have k2 := hc 2 _ rfl
      simp only [Nat.add_zero] at k0 k1 k2
      clear hc
      have hle := limbsTo_le l j k
      have HT := Lib.hid (fun ht => limbsTo_t (j := (j : Int)) hlt ht)
      have HF := Lib.hid (fun ht => limbsTo_f (j := (j : Int)) hlt ht)
      generalize limbsTo l j k = d at *
      generalize l[k] = t at *
      obtain ⟨TA, TB, TL⟩ := t
      obtain ⟨Ao, co, rfl, _, _⟩ := (RdS.of_own hown).form
      have hown2 := hown.alloc (.cells #[.int .i64 TA, .int .i64 TB, .int .i64 TL] 62)
      have hb2 := hb.alloc (o := .cells #[.int .i64 TA, .int .i64 TB, .int .i64 TL] 62) hz
      by_cases h1 : TA = (j : Int)
      · have hd : (TA == (j : Int)) = true := by rw [beq_iff_eq]; exact h1
        have HTT := Lib.hid (HT.out (touch_t1 h1))
        clear h1
        go_wp2_with (at_builtin; refine wpList_appendB _ rfl (.tmp 31) (.tmp 33) _ rfl w.heap.size 3 i0 _ 1 8 Try.underlying28 hi0 hz0 hz1 hz2 rfl (by omega) _ d.length (d.flatMap cInt) rfl (hown2.alloc _) _ 1 [.int .i64 k] rfl (rdS_newAt _ _ (by simp) #[.int .i64 k] _ 1 1 rfl (by simp [maxLen])) (by simp [Value.oneCell']) (by simp [maxLen]; omega) (by omega) (by simp; omega) ?_; intro v5 w5 own5 gr5 at5)
        have hb5 := (hb2.alloc (by simp; omega) _).trans (below_own (hown2.alloc _) gr5 (by simp; omega))
        go_wp2_with fail
        go_roundw
        case rel => exact ⟨k + 1, by omega, by go_num, by rw [HTT.out, List.length_append, List.flatMap_append]; exact own5, hb5⟩
        case measure => simp [intOf]; omega
      · have hd : (TA == (j : Int)) = false := by rw [beq_eq_false_iff_ne]; exact h1
        by_cases h2 : TB = (j : Int)
        · have hd2 : (TB == (j : Int)) = true := by rw [beq_iff_eq]; exact h2
          have HTT := Lib.hid (HT.out (touch_t2 h2))
          clear h1 h2
          go_wp2_with (at_builtin; refine wpList_appendB _ rfl (.tmp 31) (.tmp 33) _ rfl w.heap.size 3 i0 _ 1 8 Try.underlying28 hi0 hz0 hz1 hz2 rfl (by omega) _ d.length (d.flatMap cInt) rfl (hown2.alloc _) _ 1 [.int .i64 k] rfl (rdS_newAt _ _ (by simp) #[.int .i64 k] _ 1 1 rfl (by simp [maxLen])) (by simp [Value.oneCell']) (by simp [maxLen]; omega) (by omega) (by simp; omega) ?_; intro v5 w5 own5 gr5 at5)
          have hb5 := (hb2.alloc (by simp; omega) _).trans (below_own (hown2.alloc _) gr5 (by simp; omega))
          go_wp2_with fail
          go_roundw
          case rel => exact ⟨k + 1, by omega, by go_num, by rw [HTT.out, List.length_append, List.flatMap_append]; exact own5, hb5⟩
          case measure => simp [intOf]; omega
        · have hd2 : (TB == (j : Int)) = false := by rw [beq_eq_false_iff_ne]; exact h2
          have HTT := Lib.hid (HF.out (touch_f h1 h2))
          clear h1 h2
          go_wp2_with fail
          go_roundw
          case rel => exact ⟨k + 1, by omega, by go_num, by rw [HTT.out]; exact hown2, hb2⟩
          case measure => simp [intOf]; omega
    · obtain rfl : k = l.length := by omega
      go_wp2_with fail
      go_ret
      exact ⟨_, rfl, hown, hb⟩
set_option maxHeartbeats 4000000 in
set_option maxRecDepth 100000 in
theorem lengthOf_t (m : Nat) (v : Value) (l : List RLimb) (w : World) (h : RdL cLimb 3 w v l) (hq : bodyB m l = true) :
    Calls Try.prog 12 #[.agg #[.int .i64 m, v]] w fun e w' => e = .returned (.int .i64 (lenF l)) ∧ Below w.heap.size w w' := by
  have h0 := h
  obtain ⟨A, c, rfl, h1, h2⟩ := h.form
  have hl11 := (body_bd hq).2.2.2
  have HLB : Hid (∀ t ∈ l, 1 ≤ t.2.2 ∧ t.2.2 ≤ 100) := fun t ht => (limb_bd (List.all_eq_true.1 (body_parts hq).2.2.1 t ht)).2.2
  have hbW : Below w.heap.size w (w.alloc (.cells #[.int .i64 m, .slice A l.length c] 26)) := by (repeat' (first | (with_reducible exact Below.refl _ _) | (with_reducible assumption) | (with_reducible refine Below.setCell ?_ (by first | omega | (simp; omega) | (simp; done)) _) | (with_reducible refine Below.alloc ?_ (by first | omega | (simp; omega) | (simp; done)) _) | (with_reducible refine Below.drew ?_) | (with_reducible refine below_drewN ?_ _)))
  have Lb0 : Loc (w.alloc (.cells #[.int .i64 m, .slice A l.length c] 26)) w.heap.size [.int .i64 m, .slice A l.length c] := Loc.new w #[.int .i64 m, .slice A l.length c] 26
  go_enter Try.func12, Try.ntmps12
  go_upto_region 1 with (fail)
  have hC := implBodyOk_any m (.slice A l.length c) l _ (h0.below hbW)
  rw [hq] at hC
  have b0 := (Lb0 0 _ rfl).1
  have b1 := (Lb0 1 _ rfl).1
  go_wp2_with fail
  refine hC.mono ?_
  rintro e w1 ⟨rfl, hb1⟩
  have Lb := Lb0.below hb1
  have hb01 := bl_trans hbW hb1
  clear hC b0 b1 Lb0 hbW hb1
  have b1 := (Lb 1 _ rfl).1
  go_wp2_with fail
  go_loopw [3, 5, 12] (fun s _ i wr => ∃ k : Nat, k ≤ l.length ∧ i = .int .i64 k ∧ s = .int .i64 (lenF (l.take k)) ∧ Below w.heap.size w wr) (fun _ _ i _ => l.length - (intOf i).toNat)
  case atStart => exact ⟨0, Nat.zero_le _, rfl, rfl, hb01⟩
  case round =>
    obtain ⟨k, hk, rfl, rfl, hb⟩ := hrel
    have hz := hb.size
    clear b1
    have hbd := lenF_bd HLB.out k hk
    by_cases hlt : k < l.length
    · obtain ⟨g, off, rfl, hg, hc⟩ := (h0.below hb).cell cLimb_len (by omega) hlt
      have k0 := hc 0 _ rfl
      have k1 := hc 1 _ rfl
      have k2 := hc 2 _ rfl
      simp only [Nat.add_zero] at k0 k1 k2
      clear hc
      have HS := Lib.hid (lenF_succ l hlt)
      have hx := HLB.out _ (List.getElem_mem hlt)
      generalize lenF (l.take k) = s at *
      generalize l[k] = t at *
      obtain ⟨TA, TB, TL⟩ := t
      have hw : IntKind.i64.wrap (s + TL) = s + TL := IntWalk.i64_in _ (by simp at hx; omega)
      have hb2 := hb.alloc (o := .cells #[.int .i64 TA, .int .i64 TB, .int .i64 TL] 62) hz
      clear hx hbd
      go_wp2_with fail
      go_roundw
      case rel => exact ⟨k + 1, by omega, by go_num, int_eq (by rw [HS.out]), hb2⟩
      case measure => simp [intOf]; omega
    · obtain rfl : k = l.length := by omega
      rw [List.take_length]
      go_wp2_with fail
      go_ret
      exact ⟨rfl, hb⟩
set_option maxHeartbeats 4000000 in
set_option maxRecDepth 100000 in
theorem endsOf_t (m : Nat) (v : Value) (l : List RLimb) (w : World) (h : RdL cLimb 3 w v l) (hq : bodyB m l = true) :
    Calls Try.prog 7 #[.agg #[.int .i64 m, v]] w fun e w' => ∃ v', e = .returned v' ∧ w'.ownsRow w.heap.size 3 1 v' (endsTo l m).length ((endsTo l m).flatMap cInt) ∧ Below w.heap.size w w' := by
  have h0 := h
  obtain ⟨A, c, rfl, h1, h2⟩ := h.form
  obtain ⟨i0, hi0, hz0, hz1, hz2⟩ := info_parts infoInt
  have hm := (body_parts hq).1
  have hbW : Below w.heap.size w (w.alloc (.cells #[.int .i64 m, .slice A l.length c] 26)) := by (repeat' (first | (with_reducible exact Below.refl _ _) | (with_reducible assumption) | (with_reducible refine Below.setCell ?_ (by first | omega | (simp; omega) | (simp; done)) _) | (with_reducible refine Below.alloc ?_ (by first | omega | (simp; omega) | (simp; done)) _) | (with_reducible refine Below.drew ?_) | (with_reducible refine below_drewN ?_ _)))
  have Lb0 : Loc (w.alloc (.cells #[.int .i64 m, .slice A l.length c] 26)) w.heap.size [.int .i64 m, .slice A l.length c] := Loc.new w #[.int .i64 m, .slice A l.length c] 26
  have HLA : Hid (∀ (j : Nat) (W : World), j < m → RdL cLimb 3 W (.slice A l.length c) l → Calls Try.prog 8 #[.agg #[.int .i64 m, .slice A l.length c], .int .i64 j] W fun e w' => ∃ v', e = .returned v' ∧ w'.ownsRow W.heap.size 3 1 v' (limbsTo l j l.length).length ((limbsTo l j l.length).flatMap cInt) ∧ Below W.heap.size W w') := fun j W hj hr => limbsAt_t m j _ l W hr hq hj
  go_enter Try.func7, Try.ntmps7
  go_upto_region 1 with (fail)
  have hC := implBodyOk_any m (.slice A l.length c) l _ (h0.below hbW)
  rw [hq] at hC
  have b0 := (Lb0 0 _ rfl).1
  have b1 := (Lb0 1 _ rfl).1
  go_wp2_with fail
  refine hC.mono ?_
  rintro e w1 ⟨rfl, hb1⟩
  have Lb := Lb0.below hb1
  have hb01 := bl_trans hbW hb1
  have hz1' := hb01.size
  clear hC b0 b1 Lb0 hbW hb1
  have hlb := World.block_lt_of_cell? w1 _ (Lb 0 _ rfl).1
  have Lb2 : Loc (w1.alloc (.cells #[] 3)) w.heap.size [.int .i64 m, .slice A l.length c] := Lb.alloc _
  have b0 := (Lb2 0 _ rfl).1
  go_wp2_with fail
  go_loopw [3, 4, 11] (fun p _ i wr => ∃ k : Nat, k ≤ m ∧ i = .int .i64 k ∧ wr.ownsRow (w.heap.size + 1) 3 1 p (endsTo l k).length ((endsTo l k).flatMap cInt) ∧ Loc wr w.heap.size [.int .i64 m, .slice A l.length c] ∧ Below w.heap.size w wr) (fun _ _ i _ => m - (intOf i).toNat)
  case atStart => exact ⟨0, Nat.zero_le _, rfl, own_mono (World.ownsRow_made (size := 1) (e := 3) w1 #[] 0 (Nat.le_refl _) (by simp [maxLen]) rfl) hlb, Lb2, hb01.alloc hz1' _⟩
  case round =>
    obtain ⟨k, hk, rfl, hown, Lr, hb⟩ := hrel
    have hz := hb.size
    clear b0 Lb2 Lb
    by_cases hlt : k < m
    · have hC := HLA.out k wr hlt (h0.below hb)
      have hle := endsTo_le l k
      have HD := Lib.hid (limbsTo_deg l (k : Int))
      have HT := Lib.hid (fun ht => endsTo_t (l := l) (m := k) ht)
      have HF := Lib.hid (fun ht => endsTo_f (l := l) (m := k) ht)
      obtain ⟨dl, hdl⟩ : ∃ dl, (limbsTo l (k : Int) l.length).length = dl := ⟨_, rfl⟩
      rw [hdl] at hC HD
      generalize endsTo l k = d at *
      obtain ⟨Ao, co, rfl, _, _⟩ := (RdS.of_own hown).form
      have b0 := (Lr 0 _ rfl).1
      have b1 := (Lr 1 _ rfl).1
      clear hdl
      go_wp2_with fail
      refine hC.mono ?_
      rintro e w2 ⟨v2, rfl, own2, hb2⟩
      obtain ⟨A2, c2, rfl, _, _⟩ := (RdS.of_own own2).form
      have hown2 := own_below hown hb2
      have Lr2 := Lr.below hb2
      have hb02 := bl_trans hb hb2
      have hz2' := hb02.size
      have hlo := World.block_lt_of_cell? w2 _ (Lr2 0 _ rfl).1
      clear hC own2 hb2 hown Lr hb b0 b1
      by_cases h1 : dl ≤ 1
      · have hd : decide ((dl : Int) ≤ 1) = true := decide_eq_true (by omega)
        have HTT := Lib.hid (HT.out (by rw [← HD.out]; exact h1))
        go_wp2_with (at_builtin; refine wpList_appendB _ rfl (.tmp 19) (.tmp 21) _ rfl (w.heap.size + 1) 3 i0 _ 1 8 Try.underlying28 hi0 hz0 hz1 hz2 rfl (by omega) _ d.length (d.flatMap cInt) rfl (hown2.alloc _) _ 1 [.int .i64 k] rfl (rdS_newAt _ _ rfl #[.int .i64 k] _ 1 1 rfl (by simp [maxLen])) (by simp [Value.oneCell']) (by simp [maxLen]; omega) (by omega) (by simp; omega) ?_; intro v5 w5 own5 gr5 at5)
        have hb5 : Below w2.heap.size w2 (w2.alloc (.cells #[.int .i64 k] 3)) := (Below.refl _ _).alloc (Nat.le_refl _) _
        have Lr5 : Loc w5 w.heap.size [.int .i64 m, .slice A l.length c] := (Lr2.below hb5).chg (Chg.of_grown gr5) (fun hm => by have := (own_lt (hown2.alloc (.cells #[.int .i64 k] 3)) _ hm).1; omega)
        have hb6 := (hb02.alloc hz2' (.cells #[.int .i64 k] 3)).trans ((below_own (hown2.alloc _) gr5 (by simp; omega)).mono (by omega))
        go_wp2_with fail
        go_roundw
        case rel => exact ⟨k + 1, by omega, by go_num, by rw [HTT.out, List.length_append, List.flatMap_append]; exact own5, Lr5, hb6⟩
        case measure => simp [intOf]; omega
      · have hd : decide ((dl : Int) ≤ 1) = false := decide_eq_false (by omega)
        have HTT := Lib.hid (HF.out (by rw [← HD.out]; exact h1))
        go_wp2_with fail
        go_roundw
        case rel => exact ⟨k + 1, by omega, by go_num, by rw [HTT.out]; exact hown2, Lr2, hb02⟩
        case measure => simp [intOf]; omega
    · obtain rfl : k = m := by omega
      go_wp2_with fail
      go_ret
      exact ⟨_, rfl, own_mono hown (by omega), hb⟩
end Go.Proofs.Ytomghkfkbpkbdaa

namespace Go.Proofs.Ytomghkfkbpkbdaa
open Go.RowKit
theorem own_full {e : TypeId} {size : Nat} (w : World) (cs : Array Value) (n : Nat) (hs : cs.size = n * size) (hm : n ≤ maxLen) : (w.alloc (.cells cs e)).ownsRow w.heap.size e size (.slice (some ⟨w.heap.size, 0, none⟩) n n) n cs.toList :=
  ⟨by simpa using hs, .inr ⟨w.heap.size, n, cs, rfl, Nat.le_refl _, heap_alloc_new w _, Nat.le_refl _, hm, hs, by rw [← hs]; exact List.take_of_length_le (Nat.le_of_eq (by simp))⟩⟩
def sampleL : List RLimb := [(0, 1, 4), (0, 2, 6), (1, 3, 3), (1, 4, 3), (2, 5, 5), (2, 6, 5)]
def SamplePost (w : World) (e : Ending) (w' : World) : Prop := ∃ v, e = .returned (.agg #[.int .i64 7, v]) ∧ w'.ownsRow w.heap.size 62 3 v sampleL.length (sampleL.flatMap cLimb) ∧ Below w.heap.size w w'
theorem sample_body : bodyB (7 : Nat) sampleL = true := by decide +kernel
set_option maxHeartbeats 1000000 in
theorem implSample_any (w : World) : Calls Try.prog 14 #[] w (SamplePost w) := by
  have hr : Loc (w.alloc (.cells #[.int .i64 0, .slice none 0 0] 26)) w.heap.size [.int .i64 0, .slice none 0 0] := Loc.new w #[.int .i64 0, .slice none 0 0] 26
  have hb1 : Below w.heap.size w (w.alloc (.cells #[.int .i64 0, .slice none 0 0] 26)) := by (repeat' (first | (with_reducible exact Below.refl _ _) | (with_reducible assumption) | (with_reducible refine Below.setCell ?_ (by first | omega | (simp; omega) | (simp; done)) _) | (with_reducible refine Below.alloc ?_ (by first | omega | (simp; omega) | (simp; done)) _) | (with_reducible refine Below.drew ?_) | (with_reducible refine below_drewN ?_ _)))
  have hz : w.heap.size < (w.alloc (.cells #[.int .i64 0, .slice none 0 0] 26)).heap.size := by simp
  go_enter Try.func14, Try.ntmps14
  go_upto_region 1 with (fail)
  obtain ⟨rb, hrb⟩ : ∃ rb, w.heap.size = rb := ⟨_, rfl⟩
  generalize w.alloc (.cells #[.int .i64 0, .slice none 0 0] 26) = V at *
  rw [hrb] at hr hz ⊢
  have r0 := (hr 0 _ rfl).1
  have r1 := (hr 1 _ rfl).1
  have f0 := (hr 0 _ rfl).2
  have f1 := (hr 1 _ rfl).2
  go_wp2_with fail
  have hch : Chg [rb] V ((V.setCell ⟨rb, 0, none⟩ (.int .i64 7)).setCell ⟨rb, 1, none⟩ (.slice (some ⟨V.heap.size, 0, none⟩) 6 6)) := by repeat' (first | (with_reducible exact Chg.refl _ _) | (with_reducible refine chg_set ?_ (by simp)))
  have hown : (((V.setCell ⟨rb, 0, none⟩ (.int .i64 7)).setCell ⟨rb, 1, none⟩ (.slice (some ⟨V.heap.size, 0, none⟩) 6 6)).alloc (.cells #[.int .i64 0, .int .i64 1, .int .i64 4, .int .i64 0, .int .i64 2, .int .i64 6, .int .i64 1, .int .i64 3, .int .i64 3, .int .i64 1, .int .i64 4, .int .i64 3, .int .i64 2, .int .i64 5, .int .i64 5, .int .i64 2, .int .i64 6, .int .i64 5] 62)).ownsRow V.heap.size 62 3 (.slice (some ⟨V.heap.size, 0, none⟩) 6 6) sampleL.length (sampleL.flatMap cLimb) := by
    have h := own_full (size := 3) (e := 62) ((V.setCell ⟨rb, 0, none⟩ (.int .i64 7)).setCell ⟨rb, 1, none⟩ (.slice (some ⟨V.heap.size, 0, none⟩) 6 6)) #[.int .i64 0, .int .i64 1, .int .i64 4, .int .i64 0, .int .i64 2, .int .i64 6, .int .i64 1, .int .i64 3, .int .i64 3, .int .i64 1, .int .i64 4, .int .i64 3, .int .i64 2, .int .i64 5, .int .i64 5, .int .i64 2, .int .i64 6, .int .i64 5] 6 rfl (by simp [maxLen])
    have e : sampleL.flatMap cLimb = [.int .i64 0, .int .i64 1, .int .i64 4, .int .i64 0, .int .i64 2, .int .i64 6, .int .i64 1, .int .i64 3, .int .i64 3, .int .i64 1, .int .i64 4, .int .i64 3, .int .i64 2, .int .i64 5, .int .i64 5, .int .i64 2, .int .i64 6, .int .i64 5] := rfl
    have e2 : sampleL.length = 6 := rfl
    rw [World.size_setCell, World.size_setCell] at h
    rw [e, e2]
    exact h
  refine bodyPost_ret (v := .agg #[.int .i64 7, .slice (some ⟨V.heap.size, 0, none⟩) 6 6]) (by simp [results, Try.results14, go_sem, *]) rfl ⟨_, rfl, ?_, ?_⟩
  · exact own_mono hown (by omega)
  · rw [← hrb] at hch ⊢
    exact (Below.chg hb1 hch hb1.size (by simp)).alloc (by rw [World.size_setCell, World.size_setCell]; exact hb1.size) _

set_option maxHeartbeats 1000000 in
theorem specSample_any (w : World) : Calls Try.prog 57 #[] w (SamplePost w) := by
  have hr : Loc (w.alloc (.cells #[.int .i64 0, .slice none 0 0] 26)) w.heap.size [.int .i64 0, .slice none 0 0] := Loc.new w #[.int .i64 0, .slice none 0 0] 26
  have hb1 : Below w.heap.size w (w.alloc (.cells #[.int .i64 0, .slice none 0 0] 26)) := by (repeat' (first | (with_reducible exact Below.refl _ _) | (with_reducible assumption) | (with_reducible refine Below.setCell ?_ (by first | omega | (simp; omega) | (simp; done)) _) | (with_reducible refine Below.alloc ?_ (by first | omega | (simp; omega) | (simp; done)) _) | (with_reducible refine Below.drew ?_) | (with_reducible refine below_drewN ?_ _)))
  have hz : w.heap.size < (w.alloc (.cells #[.int .i64 0, .slice none 0 0] 26)).heap.size := by simp
  go_enter Try.func57, Try.ntmps57
  go_upto_region 1 with (fail)
  obtain ⟨rb, hrb⟩ : ∃ rb, w.heap.size = rb := ⟨_, rfl⟩
  generalize w.alloc (.cells #[.int .i64 0, .slice none 0 0] 26) = V at *
  rw [hrb] at hr hz ⊢
  have r0 := (hr 0 _ rfl).1
  have r1 := (hr 1 _ rfl).1
  have f0 := (hr 0 _ rfl).2
  have f1 := (hr 1 _ rfl).2
  go_wp2_with fail
  have hch : Chg [rb] V ((V.setCell ⟨rb, 0, none⟩ (.int .i64 7)).setCell ⟨rb, 1, none⟩ (.slice (some ⟨V.heap.size, 0, none⟩) 6 6)) := by repeat' (first | (with_reducible exact Chg.refl _ _) | (with_reducible refine chg_set ?_ (by simp)))
  have hown : (((V.setCell ⟨rb, 0, none⟩ (.int .i64 7)).setCell ⟨rb, 1, none⟩ (.slice (some ⟨V.heap.size, 0, none⟩) 6 6)).alloc (.cells #[.int .i64 0, .int .i64 1, .int .i64 4, .int .i64 0, .int .i64 2, .int .i64 6, .int .i64 1, .int .i64 3, .int .i64 3, .int .i64 1, .int .i64 4, .int .i64 3, .int .i64 2, .int .i64 5, .int .i64 5, .int .i64 2, .int .i64 6, .int .i64 5] 62)).ownsRow V.heap.size 62 3 (.slice (some ⟨V.heap.size, 0, none⟩) 6 6) sampleL.length (sampleL.flatMap cLimb) := by
    have h := own_full (size := 3) (e := 62) ((V.setCell ⟨rb, 0, none⟩ (.int .i64 7)).setCell ⟨rb, 1, none⟩ (.slice (some ⟨V.heap.size, 0, none⟩) 6 6)) #[.int .i64 0, .int .i64 1, .int .i64 4, .int .i64 0, .int .i64 2, .int .i64 6, .int .i64 1, .int .i64 3, .int .i64 3, .int .i64 1, .int .i64 4, .int .i64 3, .int .i64 2, .int .i64 5, .int .i64 5, .int .i64 2, .int .i64 6, .int .i64 5] 6 rfl (by simp [maxLen])
    have e : sampleL.flatMap cLimb = [.int .i64 0, .int .i64 1, .int .i64 4, .int .i64 0, .int .i64 2, .int .i64 6, .int .i64 1, .int .i64 3, .int .i64 3, .int .i64 1, .int .i64 4, .int .i64 3, .int .i64 2, .int .i64 5, .int .i64 5, .int .i64 2, .int .i64 6, .int .i64 5] := rfl
    have e2 : sampleL.length = 6 := rfl
    rw [World.size_setCell, World.size_setCell] at h
    rw [e, e2]
    exact h
  refine bodyPost_ret (v := .agg #[.int .i64 7, .slice (some ⟨V.heap.size, 0, none⟩) 6 6]) (by simp [results, Try.results57, go_sem, *]) rfl ⟨_, rfl, ?_, ?_⟩
  · exact own_mono hown (by omega)
  · rw [← hrb] at hch ⊢
    exact (Below.chg hb1 hch hb1.size (by simp)).alloc (by rw [World.size_setCell, World.size_setCell]; exact hb1.size) _

theorem act28b2 {a : Act} (h : a.tmps.size = 28) (hd : a.defers = []) : ∃ x0 x1 x2 x3 x4 x5 x6 x7 x8 x9 x10 x11 x12 x13 x14 x15 x16 x17 x18 x19 x20 x21 x22 x23 x24 x25 x26 x27 : Value, a = ⟨#[x0, x1, x2, x3, x4, x5, x6, x7, x8, x9, x10, x11, x12, x13, x14, x15, x16, x17, x18, x19, x20, x21, x22, x23, x24, x25, x26, x27], []⟩ := by
  obtain ⟨⟨l⟩, d⟩ := a
  subst hd
  match l, h with
  | [x0, x1, x2, x3, x4, x5, x6, x7, x8, x9, x10, x11, x12, x13, x14, x15, x16, x17, x18, x19, x20, x21, x22, x23, x24, x25, x26, x27], _ => exact ⟨x0, x1, x2, x3, x4, x5, x6, x7, x8, x9, x10, x11, x12, x13, x14, x15, x16, x17, x18, x19, x20, x21, x22, x23, x24, x25, x26, x27, rfl⟩
def rb2P (g xb n : Nat) (A : Option Addr) (cA : Nat) (l : List RLimb) (i : Nat) (v : Value) (_ : Nat → Nat) (w : World) : Prop :=
  match i with
  | 0 => v = .agg #[.int .i64 n, .slice A l.length cA]
  | 1 => v = .pointer (some ⟨g, 0, none⟩)
  | 2 => v = .pointer (some ⟨xb, 0, none⟩)
  | 3 => v = .int .i64 n
  | 4 => ∃ a : Int, v = .int .i64 a ∧ 0 ≤ a ∧ a < n
  | 5 => v = .pointer (some ⟨g, 0, none⟩)
  | 6 => ∃ a : Int, v = .int .i64 a ∧ 0 ≤ a ∧ a < 9
  | 7 => ∃ x : Int, v = .int .i64 x ∧ 1 ≤ x ∧ x ≤ 9
  | 8 => ∃ (A' : Option Addr) (c' : Nat) (a x : Int), v = .tuple #[.agg #[.int .i64 ((n : Int) + 1), .slice A' (l.length + 1) c'], .bool true] ∧ (0 ≤ a ∧ a < n) ∧ (1 ≤ x ∧ x ≤ 9) ∧ w.ownsRow (xb + 1) 62 3 (.slice A' (l.length + 1) c') (l.length + 1) ((l ++ [(a, (n : Int), x)]).flatMap cLimb)
  | _ => True
def rb2Need (k : Nat) : List Nat := if k = 3 then [2] else if k = 4 then [1, 3] else if k = 6 then [5] else if k = 7 then [6] else if k = 8 then [0, 4, 7] else []
def rb2Bef (k : Nat) : List Nat := if k = 3 then [2] else if k = 4 then [1, 3, 2] else if k = 6 then [5] else if k = 7 then [6, 5] else if k = 8 then [0, 4, 1, 3, 2, 7, 6, 5] else []
def rb2R (k : Nat) (_ : Nat → Nat) (w w' : World) : Prop := k = 4 ∨ k = 6 ∨  Below w.heap.size w w'
def BodyPost (w0 w : World) (g : Nat) (A : Option Addr) (c : Nat) (bs : List Int) (e : Ending) (w' : World) : Prop :=
  ∃ (n : Nat) (v : Value) (l : List RLimb), e = .returned (.agg #[.int .i64 n, v]) ∧ w'.ownsRow w.heap.size 62 3 v l.length (l.flatMap cLimb) ∧ bodyB n l = true ∧ Cur w0 w' g A c bs ∧ Chg [g] w w'
theorem add_yes {n : Nat} {l : List RLimb} (h : bodyB n l = true) (hn : n < 12) {a x : Int} (ha : 0 ≤ a ∧ a < n) (hx : 1 ≤ x ∧ x ≤ 9) : addB n l a x = true := by
  obtain ⟨j, rfl⟩ := Int.eq_ofNat_of_zero_le ha.1
  rw [addB, h, inB_iff.2 (by omega), add_limb h (by omega) hn (by omega)]; rfl
theorem chg_up {w W W' : World} {g rb : Nat} (h : Chg [g] w W) (hc : Chg [rb] W W') (hr : w.heap.size ≤ rb) : Chg [g] w W' :=
  ⟨hc.os.trans h.os, hc.tape.trans h.tape, hc.output.trans h.output, Nat.le_trans h.size hc.size, fun k hk hn => (hc.block k (Nat.lt_of_lt_of_le hk h.size) (by simp; omega)).trans (h.block k hk hn)⟩
set_option maxHeartbeats 8000000 in
set_option maxRecDepth 100000 in
theorem l02Body_any (w0 w : World) (g : Nat) (A0 : Option Addr) (c0 : Nat) (bs : List Int) (hcur : Cur w0 w g A0 c0 bs) :
    Calls Try.prog 29 #[.pointer (some ⟨g, 0, none⟩)] w (BodyPost w0 w g A0 c0 bs) := by
  have hglt := hcur.lt
  have hw0 := hcur.below.size
  go_enter Try.func29, Try.ntmps29
  go_wp2_with fail
  refine (l01Once_any 5 w0 _ g A0 c0 bs (hcur.keep ((Below.refl _ _).alloc (Nat.le_refl _) (.cells #[.int .i64 0, .slice none 0 0] 26))) (by omega) (by omega)).mono ?_
  rintro e w1 ⟨b, rfl, hc1, hch1⟩
  have hz1 := hch1.size
  simp at hz1
  have lr1 : Loc w1 w.heap.size [.int .i64 0, .slice none 0 0] := (Loc.new w #[.int .i64 0, .slice none 0 0] 26).chg hch1 (by simp; omega)
  have hcw1 : Chg [g] w w1 := ((Chg.refl [g] w).alloc (.cells #[.int .i64 0, .slice none 0 0] 26)).trans hch1
  obtain ⟨rb, hrb⟩ : ∃ rb, w.heap.size = rb := ⟨_, rfl⟩
  rw [hrb] at lr1 hz1 ⊢
  have hgr : g ≠ rb := by omega
  clear hch1
  cases b
  rotate_left
  · go_wp2_with fail
    refine (specSample_any w1).mono ?_
    rintro e w2 ⟨v, rfl, own2, hb2⟩
    obtain ⟨A2, c2, rfl, _, _⟩ := (RdS.of_own own2).form
    have lr2 := lr1.below hb2
    have hc2 := hc1.keep hb2
    have hcw2 := hcw1.trans (Chg.of_below hb2 _)
    have r0 := (lr2 0 _ rfl).1
    have r1 := (lr2 1 _ rfl).1
    have f0 := (lr2 0 _ rfl).2
    have f1 := (lr2 1 _ rfl).2
    have HS := Lib.hid sample_body
    generalize sampleL = sl at *
    go_wp2_with fail
    have hch3 : Chg [rb] w2 ((w2.setCell ⟨rb, 0, none⟩ (.int .i64 7)).setCell ⟨rb, 1, none⟩ (.slice A2 sl.length c2)) := by repeat' (first | (with_reducible exact Chg.refl _ _) | (with_reducible refine chg_set ?_ (by simp)))
    refine bodyPost_ret (v := .agg #[.int .i64 7, .slice A2 sl.length c2]) (by simp [results, Try.results29, go_sem, *]) rfl ⟨7, _, sl, rfl, ?_, HS.out, ?_, ?_⟩
    · exact own_mono (own_chg own2 hch3 (fun b hb hb' => by have := (own_lt own2 b hb).1; simp at hb'; omega)) (by omega)
    · exact hc2.chg hch3 (by simpa using hgr) (fun b hb => by simp at hb; omega)
    · exact chg_up hcw2 hch3 (by omega)
  obtain ⟨xb, hxb⟩ : ∃ xb, w1.heap.size = xb := ⟨_, rfl⟩
  have hB : BoxC w0 w g A0 c0 bs xb rb [.int .i64 1, .slice none 0 0] [.int .i64 0, .slice none 0 0] (w1.alloc (.cells #[.int .i64 1, .slice none 0 0] 26)) :=
    ⟨hc1.keep ((Below.refl _ _).alloc (Nat.le_refl _) _), hcw1.alloc _, by rw [← hxb]; exact Loc.new w1 #[.int .i64 1, .slice none 0 0] 26, lr1.alloc _, by simp; omega⟩
  have hown0 : (w1.alloc (.cells #[.int .i64 1, .slice none 0 0] 26)).ownsRow (xb + 1) 62 3 (.slice none 0 0) 0 [] := World.ownsRow_nil _ _ _ _
  go_upto_region 4 with (fail)
  (try rw [hxb])
  generalize w1.alloc (.cells #[.int .i64 1, .slice none 0 0] 26) = W1 at *
  have hgx : g ≠ xb := by omega
  have hrx : rb ≠ xb := by omega
  have hwxb : w.heap.size ≤ xb := by omega
  have hrw : w.heap.size ≤ rb := by omega
  have hglt2 : g < xb + 1 := by omega
  clear lr1 hcw1 hc1 hz1 hcur hxb
  go_wp2_with fail
  refine (l01Below_any 7 w0 _ g A0 c0 bs hB.cur (by omega) (by omega)).mono ?_
  rintro e w2 ⟨r, rfl, ⟨hr0, hr1⟩, hc2, hch2⟩
  have hB2 := hB.draw hc2 hch2 hgx hgr
  have hown2 := own_draw hown0 hch2 hglt2
  obtain ⟨m, rfl⟩ := Int.eq_ofNat_of_zero_le hr0
  have hm7 : m ≤ 6 := by omega
  have H1 : Hid (bodyB (1 : Nat) [] = true) := (show bodyB (1 : Nat) [] = true from by decide +kernel)
  clear hB hown0 hc2 hch2 hr0 hr1
  go_wp2_with fail
  go_loopw [4] (fun q wr => ∃ (k n : Nat) (v : Value) (l : List RLimb), k ≤ m ∧ q = .int .i64 ((m - k : Nat) : Int) ∧ Hid (n = k + 1) ∧ Hid (bodyB n l = true) ∧ wr.ownsRow (xb + 1) 62 3 v l.length (l.flatMap cLimb) ∧ BoxC w0 w g A0 c0 bs xb rb [.int .i64 n, v] [.int .i64 0, .slice none 0 0] wr) (fun q _ => (intOf q).toNat)
  case atStart => exact ⟨0, 1, _, [], Nat.zero_le _, rfl, rfl, H1, hown2, hB2⟩
  case round =>
    obtain ⟨k, n, v, l, hk, rfl, hn, hbl, hown, hbc⟩ := hrel
    clear hB2 hown2 H1
    obtain ⟨A, cA, rfl, _, _⟩ := (RdS.of_own hown).form
    have hnk := hn.out
    by_cases hlt : k < m
    · obtain ⟨q, hq⟩ : ∃ q, m - k = q + 1 := ⟨m - k - 1, by omega⟩
      rw [hq]
      have HQ := Lib.hid hq
      have hq6 : q ≤ 6 := by omega
      have hn7 : n ≤ 7 := by omega
      have hn1 : 1 ≤ n := by omega
      have hl7 : l.length ≤ 11 := (body_bd hbl.out).2.2.2
      clear hq hnk
      have HAD : Hid (∀ (W : World) (a x : Int), 0 ≤ a → a < n → 1 ≤ x → x ≤ 9 → RdL cLimb 3 W (.slice A l.length cA) l → Calls Try.prog 59 #[.agg #[.int .i64 n, .slice A l.length cA], .int .i64 a, .int .i64 x] W (RetBody ((n : Int) + 1) true (l ++ [(a, (n : Int), x)]) W)) := fun W a x h1 h2 h3 h4 hr => by
        have h5 := specAddLimb_any n a x (.slice A l.length cA) l W hr (by unfold szBody; omega)
        have h6 := add_yes hbl.out (by omega) ⟨h1, h2⟩ ⟨h3, h4⟩
        rw [addN, addL, h6, if_pos rfl, if_pos rfl] at h5
        exact h5
      go_upto_region 7 with (fail)
      refine region_stateT (n := 28) 9 (by kernel_rfl) rfl (by kernel_rfl) (by kernel_rfl) rb2Bef rb2Need [8] (by kernel_rfl) rb2R (fun _ => (fun W => (BoxC w0 w g A0 c0 bs xb rb [.int .i64 n, .slice A l.length cA] [.int .i64 0, .slice none 0 0]) W ∧ W.ownsRow (xb + 1) 62 3 (.slice A l.length cA) l.length (l.flatMap cLimb))) (fun _ => 0) (rb2P g xb n A cA l) (⟨hbc.below (Below.refl _ _).drew, hown⟩) ?_ ?_ ?_
      · intro i k v gh gh' w1 w2 hal hp hJ hR hg
        match i, hp, hal with
        | 0, hp, _ => exact hp
        | 1, hp, _ => exact hp
        | 2, hp, _ => exact hp
        | 3, hp, _ => exact hp
        | 4, hp, _ => exact hp
        | 5, hp, _ => exact hp
        | 6, hp, _ => exact hp
        | 7, hp, _ => exact hp
        | 8, ho, hal =>
          rcases hR with rfl | rfl | hb
          · exact absurd hal (by decide)
          · exact absurd hal (by decide)
          · obtain ⟨A', c', a, x, h1, h2, h3, h4⟩ := ho; exact ⟨A', c', a, x, h1, h2, h3, own_below h4 hb⟩
        | _ + 9, _, _ => trivial
      · refine ⟨?_, ?_, ?_, ?_, ?_, ?_, ?_, ?_, ?_, trivial⟩
        all_goals
          intro a gh wr d hag hdi hcl hJ hd
          obtain ⟨x0, x1, x2, x3, x4, x5, x6, x7, x8, x9, x10, x11, x12, x13, x14, x15, x16, x17, x18, x19, x20, x21, x22, x23, x24, x25, x26, x27, rfl⟩ := act28b2 hag.size hag.defers
          have ag0 : x0 = .pointer (some ⟨g, 0, none⟩) := hag.kept 0 (by kernel_rfl)
          have ag3 : x3 = .pointer (some ⟨xb, 0, none⟩) := hag.kept 3 (by kernel_rfl)
          clear hag
          subst ag0 ag3
        · have c0' := (hJ.1.lx 0 _ rfl).1
          have c1' := (hJ.1.lx 1 _ rfl).1
          go_wp2_with fail
          exact ⟨rfl, _, rfl, rfl, hJ, .inr (.inr (Below.refl _ _))⟩
        · go_wp2_with fail
          exact ⟨rfl, _, rfl, rfl, hJ, .inr (.inr (Below.refl _ _))⟩
        · go_wp2_with fail
          exact ⟨rfl, _, rfl, rfl, hJ, .inr (.inr (Below.refl _ _))⟩
        · have e0 : x18 = .pointer (some ⟨xb, 0, none⟩) := hd 2 (by kernel_rfl) _ rfl
          subst e0
          have c0' := (hJ.1.lx 0 _ rfl).1
          go_wp2_with fail
          exact ⟨rfl, _, rfl, rfl, hJ, .inr (.inr (Below.refl _ _))⟩
        · have e0 : x17 = .pointer (some ⟨g, 0, none⟩) := hd 1 (by kernel_rfl) _ rfl
          have e1 : x19 = .int .i64 n := hd 3 (by kernel_rfl) _ rfl
          subst e0 e1
          go_wp2_with fail
          refine (l01Below_any n w0 _ g A0 c0 bs hJ.1.cur (by omega) (by omega)).mono ?_
          rintro e w9 ⟨r9, rfl, ⟨h90, h91⟩, hc9, hch9⟩
          go_wp2_with fail
          exact ⟨rfl, _, rfl, ⟨r9, rfl, h90, h91⟩, ⟨hJ.1.draw hc9 hch9 hgx hgr, own_draw hJ.2 hch9 hglt2⟩, .inl rfl⟩
        · go_wp2_with fail
          exact ⟨rfl, _, rfl, rfl, hJ, .inr (.inr (Below.refl _ _))⟩
        · have e0 : x21 = .pointer (some ⟨g, 0, none⟩) := hd 5 (by kernel_rfl) _ rfl
          subst e0
          go_wp2_with fail
          refine (l01Below_any 9 w0 _ g A0 c0 bs hJ.1.cur (by omega) (by omega)).mono ?_
          rintro e w9 ⟨r9, rfl, ⟨h90, h91⟩, hc9, hch9⟩
          go_wp2_with fail
          exact ⟨rfl, _, rfl, ⟨r9, rfl, h90, h91⟩, ⟨hJ.1.draw hc9 hch9 hgx hgr, own_draw hJ.2 hch9 hglt2⟩, .inr (.inl rfl)⟩
        · obtain ⟨r9, e0, h90, h91⟩ : ∃ a : Int, x22 = Value.int .i64 a ∧ 0 ≤ a ∧ a < 9 := hd 6 (by kernel_rfl) _ rfl
          subst e0
          have hw9 : IntKind.i64.wrap (1 + r9) = 1 + r9 := IntWalk.i64_in _ (by omega)
          go_wp2_with fail
          exact ⟨rfl, _, rfl, ⟨1 + r9, rfl, by omega, by omega⟩, hJ, .inr (.inr (Below.refl _ _))⟩
        · have e0 : x16 = .agg #[.int .i64 n, .slice A l.length cA] := hd 0 (by kernel_rfl) _ rfl
          obtain ⟨a9, e1, h90, h91⟩ : ∃ a : Int, x20 = Value.int .i64 a ∧ 0 ≤ a ∧ a < n := hd 4 (by kernel_rfl) _ rfl
          obtain ⟨x9, e2, h92, h93⟩ : ∃ x : Int, x23 = Value.int .i64 x ∧ 1 ≤ x ∧ x ≤ 9 := hd 7 (by kernel_rfl) _ rfl
          subst e0 e1 e2
          go_wp2_with fail
          refine (HAD.out wr a9 x9 h90 h91 h92 h93 (RdS.of_own hJ.2)).mono ?_
          rintro e w9 ⟨y9, S9, rfl, ⟨S9', _, ow9⟩, fr9, hb9⟩
          have hsz := hJ.1.sz
          obtain ⟨A9, c9, rfl, _, _⟩ := ow9.rd.form
          have own9 : w9.ownsRow (xb + 1) 62 3 (.slice A9 (l ++ [(a9, (n : Int), x9)]).length c9) (l.length + 1) ((l ++ [(a9, (n : Int), x9)]).flatMap cLimb) := by
            have h5 := ow9.1
            rw [List.length_append] at h5 ⊢
            refine own_up h5 (fun b hb => ?_)
            have h6 := fr9.2 b (by subst_vars; rw [ow9.2]; simpa [Value.ownBlock] using hb)
            omega
          rw [List.length_append] at own9 ⊢
          go_wp2_with fail
          exact ⟨rfl, _, rfl, ⟨A9, c9, a9, x9, rfl, ⟨h90, h91⟩, ⟨h92, h93⟩, own9⟩, ⟨hJ.1.below hb9, own_below hJ.2 hb9⟩, .inr (.inr (hb9))⟩
      · intro a gh wr d hag hall hJ hd
        obtain ⟨x0, x1, x2, x3, x4, x5, x6, x7, x8, x9, x10, x11, x12, x13, x14, x15, x16, x17, x18, x19, x20, x21, x22, x23, x24, x25, x26, x27, rfl⟩ := act28b2 hag.size hag.defers
        have ag0 : x0 = .pointer (some ⟨g, 0, none⟩) := hag.kept 0 (by kernel_rfl)
        have ag2 : x2 = .pointer (some ⟨rb, 0, none⟩) := hag.kept 2 (by kernel_rfl)
        have ag3 : x3 = .pointer (some ⟨xb, 0, none⟩) := hag.kept 3 (by kernel_rfl)
        have ag4 : x4 = .int .i64 ((q + 1 : Nat) : Int) := hag.kept 4 (by kernel_rfl)
        have ag5 : x5 = .pointer (some ⟨g, 0, none⟩) := hag.kept 5 (by kernel_rfl)
        have ag6 : x6 = .bool false := hag.kept 6 (by kernel_rfl)
        have ag7 : x7 = undef := hag.kept 7 (by kernel_rfl)
        have ag8 : x8 = .agg #[.int .i64 1, .slice none 0 0] := hag.kept 8 (by kernel_rfl)
        have ag9 : x9 = .pointer (some ⟨g, 0, none⟩) := hag.kept 9 (by kernel_rfl)
        have ag10 : x10 = .int .i64 m := hag.kept 10 (by kernel_rfl)
        have ag27 : x27 = undef := hag.kept 27 (by kernel_rfl)
        have ag1 : x1 = undef := hag.kept 1 (by kernel_rfl)
        clear hag
        subst ag0 ag2 ag3 ag4 ag5 ag6 ag7 ag8 ag9 ag10 ag27 ag1
        obtain ⟨A', c', a9, x9, e0, h2, h3, h4⟩ : ∃ (A' : Option Addr) (c' : Nat) (a x : Int), x24 = .tuple #[.agg #[.int .i64 ((n : Int) + 1), .slice A' (l.length + 1) c'], .bool true] ∧ (0 ≤ a ∧ a < n) ∧ (1 ≤ x ∧ x ≤ 9) ∧ wr.ownsRow (xb + 1) 62 3 (.slice A' (l.length + 1) c') (l.length + 1) ((l ++ [(a, (n : Int), x)]).flatMap cLimb) := hd 8 (by kernel_rfl) _ rfl
        subst e0
        have hbx := hJ.1
        have c0' := (hbx.lx 0 _ rfl).1
        have f0' := (hbx.lx 0 _ rfl).2
        have c1' := (hbx.lx 1 _ rfl).1
        have f1' := (hbx.lx 1 _ rfl).2
        have HB9 := Lib.hid ((hbx.store (i := 0) (u := .int .i64 ((n : Int) + 1)) (v := .int .i64 n) rfl hwxb hw0 hgx hrx).store (i := 1) (u := .slice A' (l.length + 1) c') (v := .slice A l.length cA) rfl hwxb hw0 hgx hrx)
        have HO9 := Lib.hid (own_set (xb := xb) (i := 1) (u := .slice A' (l.length + 1) c') (own_set (xb := xb) (i := 0) (u := .int .i64 ((n : Int) + 1)) h4 (by omega)) (by omega))
        clear hd hJ hall hbx h4
        refine tri_tail (L := 9) (by kernel_rfl) rfl rfl rfl rfl ?_
        unfold TriTail
        go_wp2_with fail
        (try refine ⟨rfl, ?_⟩)
        unfold TriMid
        refine ⟨?_, ?_⟩
        · go_wp2_with fail
          (try refine ⟨rfl, ?_⟩)
          unfold TriEnd
          refine ⟨?_, ?_⟩
          all_goals
            go_wp2_with fail
            go_roundw
            case rel =>
              refine ⟨k + 1, n + 1, .slice A' (l.length + 1) c', l ++ [(a9, (n : Int), x9)], by omega, int_eq (by have := HQ.out; omega), by show _ = _; rw [hn.out], ?_, ?_, HB9.out⟩
              · obtain ⟨j, rfl⟩ := Int.eq_ofNat_of_zero_le h2.1
                exact add_limb hbl.out (by omega) (by omega) (by omega)
              · rw [List.length_append]; exact HO9.out
            case measure => simp [intOf]
        · go_wp2_with fail
          go_roundw
          case rel =>
            refine ⟨k + 1, n + 1, .slice A' (l.length + 1) c', l ++ [(a9, (n : Int), x9)], by omega, int_eq (by have := HQ.out; omega), by show _ = _; rw [hn.out], ?_, ?_, HB9.out⟩
            · obtain ⟨j, rfl⟩ := Int.eq_ofNat_of_zero_le h2.1
              exact add_limb hbl.out (by omega) (by omega) (by omega)
            · rw [List.length_append]; exact HO9.out
          case measure => simp [intOf]
    · clear hnk
      obtain rfl : k = m := by omega
      rw [Nat.sub_self]
      have c0' := (hbc.lx 0 _ rfl).1
      have c1' := (hbc.lx 1 _ rfl).1
      have r0 := (hbc.lr 0 _ rfl).1
      have r1 := (hbc.lr 1 _ rfl).1
      have f0 := (hbc.lr 0 _ rfl).2
      have f1 := (hbc.lr 1 _ rfl).2
      go_wp2_with fail
      have hch3 : Chg [rb] wr ((wr.setCell ⟨rb, 0, none⟩ (.int .i64 n)).setCell ⟨rb, 1, none⟩ (.slice A l.length cA)) := by repeat' (first | (with_reducible exact Chg.refl _ _) | (with_reducible refine chg_set ?_ (by simp)))
      refine bodyPost_ret (v := .agg #[.int .i64 n, .slice A l.length cA]) (by simp [results, Try.results29, go_sem, *]) rfl ⟨n, _, l, rfl, ?_, hbl.out, ?_, ?_⟩
      · exact own_mono (own_chg hown hch3 (fun b hb hb' => by have := (own_lt hown b hb).1; simp at hb'; omega)) (by omega)
      · exact hbc.cur.chg hch3 (by simpa using hgr) (fun b hb => by simp at hb; omega)
      · exact chg_up hbc.chg hch3 hrw
end Go.Proofs.Ytomghkfkbpkbdaa
