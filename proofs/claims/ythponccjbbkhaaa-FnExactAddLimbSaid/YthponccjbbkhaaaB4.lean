/- Contracts: BodyOk, isJoint. -/
import Derived.Test.YthponccjbbkhaaaB3
namespace Go.Proofs.Ythponccjbbkhaaa
open Go.RowKit

theorem limb_t {n L : Int} {t : RLimb} (e : n - 1 = L) (h1 : inB t.1 0 L = true) (h2 : inB t.2.1 0 L = true) (h3 : inB t.2.2 1 100 = true) : limbB n t = true := by rw [limbB, e, h1, h2, h3]; rfl
theorem limb_f1 {n L : Int} {t : RLimb} (e : n - 1 = L) (h : inB t.1 0 L = false) : limbB n t = false := by rw [limbB, e, h]; rfl
theorem limb_f2 {n L : Int} {t : RLimb} (e : n - 1 = L) (h : inB t.2.1 0 L = false) : limbB n t = false := by rw [limbB, e, h, Bool.and_false]; rfl
theorem limb_f3 {n : Int} {t : RLimb} (h : inB t.2.2 1 100 = false) : limbB n t = false := by rw [limbB, h, Bool.and_false]
theorem body_f1 {n : Int} {l : List RLimb} (h : inB n 1 12 = false) : bodyB n l = false := by rw [bodyB, h]; rfl
theorem body_f2 {n : Int} {l : List RLimb} (h : ¬ (l.length : Int) = n - 1) : bodyB n l = false := by rw [bodyB, decide_eq_false h, Bool.and_false]; rfl
theorem body_f3 {n : Int} {l : List RLimb} (h : l.all (limbB n) = false) : bodyB n l = false := by rw [bodyB, h]; simp
theorem body_f4 {n : Int} {l : List RLimb} (h : treeB l = false) : bodyB n l = false := by rw [bodyB, h]; simp
theorem body_t {n : Int} {l : List RLimb} (h1 : inB n 1 12 = true) (h2 : n - 1 = (l.length : Int)) (h3 : l.all (limbB n) = true) (h4 : treeB l = true) : bodyB n l = true := by
  rw [bodyB, h1, h3, h4, decide_eq_true h2.symm]; rfl
theorem body_eq {n : Int} {l : List RLimb} (h1 : inB n 1 12 = true) (h2 : n - 1 = (l.length : Int)) (h3 : l.all (limbB n) = true) : bodyB n l = treeB l := by
  rw [bodyB, h1, h3, decide_eq_true h2.symm]; simp
theorem tree_ne {l : List RLimb} {k : Nat} (hk : k < l.length) {a : Int} (h1 : l[k].1 = a) (h2 : l[k].2.1 = a) : treeB l = false := by
  cases h : treeB l
  · rfl
  · exact absurd (acyclic_ne _ _ h (limbE l[k]) (List.mem_map.2 ⟨_, List.getElem_mem hk, rfl⟩)) (fun hn => hn (by rw [limbE, h1, h2]))
theorem unknown_tree {n : Nat} {l : List RLimb} (hn : 0 < n) (hl : l.length + 1 = n) (hb : l.all (limbB n) = true) (hn12 : n ≤ 12) : (!decide (0 ≤ idxF (distF n l 0) (-1))) = treeB l := by
  have hd := dist_tree hn hl hb
  have hlen := distF_len n l 0
  have hbd : ∀ x ∈ distF n l 0, -1 ≤ x := fun x hx => by
    have hlb := limbs_of hb
    have := dist_way_bd (l := l) (fun t ht => by have := hlb t ht; omega) (by omega) n 0 n 0 hn12 x hx
    omega
  by_cases hm : (-1 : Int) ∈ distF n l 0
  · have h1 : treeB l ≠ true := fun ht => by
      obtain ⟨j, hj, e⟩ := List.getElem_of_mem hm
      have := hd.2 ht j (by omega)
      rw [dGet_at hj, e] at this
      omega
    rw [idxF_mem hm, decide_eq_true (by omega)]
    simp only [Bool.not_eq_true] at h1
    rw [h1]; rfl
  · have h1 : treeB l = true := hd.1 (fun j hj => by
      rw [dGet_at (by omega)]
      have h2 := hbd _ (List.getElem_mem (show j < (distF n l 0).length by omega))
      have h3 : (distF n l 0)[j]'(by omega) ≠ -1 := fun e => hm (by rw [← e]; exact List.getElem_mem _)
      omega)
    have h2 : idxF (distF n l 0) (-1) = -1 := idxF_none (List.all_eq_true.2 (fun x hx => by
      have h3 : x ≠ -1 := fun e => hm (by rw [← e]; exact hx)
      exact neB_t h3))
    rw [h1, h2]; rfl
theorem hasUnknown_any (v : Value) (l : List Int) (w : World) (h : RdL cInt 1 w v l) :
    Calls Try.prog 94 #[v] w fun e w' => e = .returned (.bool (decide (0 ≤ idxF l (-1)))) ∧ Below w.heap.size w w' := by
  have hcon := indexOf_any v l (-1) w h
  generalize idxF l (-1) = r at *
  go_enter Try.func94, Try.ntmps94
  go_wp2_with fail
  refine hcon.mono ?_
  rintro e w' ⟨rfl, rfl⟩
  go_wp2_with fail
  go_ret
  exact ⟨rfl, by (repeat' (first | exact Below.refl _ _ | (refine Below.setCell ?_ (by first | omega | (simp; omega) | (simp; done)) _) | (refine Below.alloc ?_ (by first | omega | (simp; omega) | (simp; done)) _) | (refine Below.drew ?_) | (refine below_drewN ?_ _) | (refine Below.trans ?_ (Below.mono (by assumption) (by first | omega | (simp; omega) | (simp; done))))))⟩
set_option maxHeartbeats 4000000 in
set_option maxRecDepth 100000 in
theorem implBodyOk_any (n : Int) (v : Value) (l : List RLimb) (w : World) (h : RdL cLimb 3 w v l) :
    Calls Try.prog 54 #[.agg #[.int .i64 n, v]] w fun e w' => e = .returned (.bool (bodyB n l)) ∧ Below w.heap.size w w' := by
  obtain ⟨A, c, rfl, h1, h2⟩ := h.form
  by_cases hlen : (l.length : Int) = n - 1
  · obtain ⟨m, rfl, hm⟩ : ∃ m : Nat, n = m ∧ l.length + 1 = m := ⟨l.length + 1, by omega, rfl⟩
    have Hm := Lib.hid hm
    have hm1 : (m : Int) - 1 = (l.length : Int) := by omega
    clear hlen hm
    go_enter Try.func54, Try.ntmps54
    go_wp2_with (go_at_call 73; refine two (within_any _ _ _ _) (fun hc => ?_) (fun hc => ?_))
    · have hmm := inB_iff.1 hc.out
      have hbW : Below w.heap.size w (w.alloc (.cells #[.int .i64 (m : Int), .slice A l.length c] 60)) := by (repeat' (first | (with_reducible exact Below.refl _ _) | (with_reducible assumption) | (with_reducible refine Below.setCell ?_ (by first | omega | (simp; omega) | (simp; done)) _) | (with_reducible refine Below.alloc ?_ (by first | omega | (simp; omega) | (simp; done)) _) | (with_reducible refine Below.drew ?_) | (with_reducible refine below_drewN ?_ _)))
      have Lb : Loc (w.alloc (.cells #[.int .i64 (m : Int), .slice A l.length c] 60)) w.heap.size [.int .i64 (m : Int), .slice A l.length c] := Loc.new w #[.int .i64 (m : Int), .slice A l.length c] 60
      have hwW : w.heap.size < (w.alloc (.cells #[.int .i64 (m : Int), .slice A l.length c] 60)).heap.size := by simp
      generalize w.alloc (.cells #[.int .i64 (m : Int), .slice A l.length c] 60) = W at *
      have hW : RdL cLimb 3 W (.slice A l.length c) l := h.below hbW
      have b0w := (Lb 0 _ rfl).1
      have b1w := (Lb 1 _ rfl).1
      go_loopw [21] (fun i wr => ∃ k : Nat, k ≤ l.length ∧ i = .int .i64 k ∧ Hid ((l.take k).all (limbB m) = true) ∧ Below W.heap.size W wr) (fun i _ => l.length - (intOf i).toNat)
      case atStart => exact ⟨0, Nat.zero_le _, rfl, by rfl, Below.refl _ _⟩
      case round =>
        obtain ⟨k, hk, rfl, hall, hb⟩ := hrel
        have hz := hb.size
        have b0 := carry hb b0w
        have b1 := carry hb b1w
        have hww : w.heap.size < wr.heap.size := by omega
        have hbo : Below w.heap.size w wr := Below.trans hbW (hb.mono (by omega))
        by_cases hlt : k < l.length
        · obtain ⟨g, off, rfl, hg, hc'⟩ := (hW.below hb).cell cLimb_len (by omega) hlt
          have k0 := hc' 0 _ rfl
          have k1 := hc' 1 _ rfl
          have k2 := hc' 2 _ rfl
          simp only [Nat.add_zero] at k0 k1 k2
          clear hc'
          by_cases hab : l[k].1 = l[k].2.1
          · have Hne := Lib.hid (tree_ne hlt hab rfl)
            rw [hab] at k0
            have Hab := Lib.hid hab
            clear hab
            go_wp2_with (go_at_call 73; refine two (within_any _ _ _ _) (fun hq => ?_) (fun hq => ?_))
            all_goals
              go_ret
              exact ⟨ret_bool (body_f4 Hne.out).symm, by (repeat' (first | (with_reducible exact Below.refl _ _) | (with_reducible assumption) | (with_reducible refine Below.setCell ?_ (by first | omega | (simp; omega) | (simp; done)) _) | (with_reducible refine Below.alloc ?_ (by first | omega | (simp; omega) | (simp; done)) _) | (with_reducible refine Below.drew ?_) | (with_reducible refine below_drewN ?_ _)))⟩
          · have Hall := Lib.hid (fun h => all_take_succ (p := limbB m) hlt hall.out h)
            have Hf := Lib.hid (fun h => all_false_at (p := limbB m) hlt h)
            have Ht := Lib.hid (fun h1 h2 h3 => limb_t (n := m) (t := l[k]'hlt) hm1 h1 h2 h3)
            have Hf1 := Lib.hid (fun h => limb_f1 (n := m) (t := l[k]'hlt) hm1 h)
            have Hf2 := Lib.hid (fun h => limb_f2 (n := m) (t := l[k]'hlt) hm1 h)
            have Hf3 := Lib.hid (fun h => limb_f3 (n := m) (t := l[k]'hlt) h)
            generalize l[k] = t at *
            obtain ⟨t1, t2, t3⟩ := t
            go_wp2_with (go_at_call 73; refine two (within_any _ _ _ _) (fun hq => ?_) (fun hq => ?_))
            · go_roundw
              case rel => exact ⟨k + 1, by omega, by go_num, Hall.out (Ht.out (by exact Hid.out (by assumption)) (by exact Hid.out (by assumption)) hq.out), by (repeat' (first | (with_reducible exact Below.refl _ _) | (with_reducible assumption) | (with_reducible refine Below.setCell ?_ (by first | omega | (simp; omega) | (simp; done)) _) | (with_reducible refine Below.alloc ?_ (by first | omega | (simp; omega) | (simp; done)) _) | (with_reducible refine Below.drew ?_) | (with_reducible refine below_drewN ?_ _)))⟩
              case measure => simp [intOf]; omega
            all_goals
              go_ret
              exact ⟨ret_bool (body_f3 (Hf.out (by first | exact Hf1.out hq.out | exact Hf2.out hq.out | exact Hf3.out hq.out))).symm, by (repeat' (first | (with_reducible exact Below.refl _ _) | (with_reducible assumption) | (with_reducible refine Below.setCell ?_ (by first | omega | (simp; omega) | (simp; done)) _) | (with_reducible refine Below.alloc ?_ (by first | omega | (simp; omega) | (simp; done)) _) | (with_reducible refine Below.drew ?_) | (with_reducible refine below_drewN ?_ _)))⟩
        · obtain rfl : k = l.length := by omega
          have ha := all_take_end hlt hall.out
          have hcon := distances_any m _ l 0 wr (hW.below hb) (by omega) (by omega) ha (by omega)
          have hfin := unknown_tree (by omega) Hm.out ha (by omega)
          have Hfin := Lib.hid hfin
          have Ha := Lib.hid ha
          clear ha hfin
          go_wp2_with fail
          refine hcon.mono ?_
          rintro e w2 ⟨v2, rfl, hown, hb2⟩
          have hul := hasUnknown_any v2 (distF m l 0) w2 (by have hdl := distF_len m l 0; unfold RdL; rw [hdl]; exact RdS.of_own hown)
          go_wp2_with fail
          refine hul.mono ?_
          rintro e w3 ⟨rfl, hb3⟩
          go_wp2_with fail
          go_ret
          exact ⟨ret_bool (Hfin.out.trans (body_eq hc.out hm1 Ha.out).symm), bl_trans (bl_trans hbo hb2) hb3⟩
    · go_ret
      exact ⟨ret_bool (body_f1 hc.out).symm, by (repeat' (first | exact Below.refl _ _ | (refine Below.setCell ?_ (by first | omega | (simp; omega) | (simp; done)) _) | (refine Below.alloc ?_ (by first | omega | (simp; omega) | (simp; done)) _) | (refine Below.drew ?_) | (refine below_drewN ?_ _) | (refine Below.trans ?_ (Below.mono (by assumption) (by first | omega | (simp; omega) | (simp; done))))))⟩
  · go_enter Try.func54, Try.ntmps54
    go_wp2_with (go_at_call 73; refine twoI (within_any _ _ _ _) (fun hc hm hm' => ?_) (fun hc => ?_))
    all_goals
      go_ret
      exact ⟨ret_bool (body_f2 hlen).symm, by (repeat' (first | exact Below.refl _ _ | (refine Below.setCell ?_ (by first | omega | (simp; omega) | (simp; done)) _) | (refine Below.alloc ?_ (by first | omega | (simp; omega) | (simp; done)) _) | (refine Below.drew ?_) | (refine below_drewN ?_ _) | (refine Below.trans ?_ (Below.mono (by assumption) (by first | omega | (simp; omega) | (simp; done))))))⟩
set_option maxHeartbeats 1000000 in
set_option maxRecDepth 100000 in
theorem isJoint_any (n j : Int) (v : Value) (l : List RLimb) (w : World) (h : RdL cLimb 3 w v l) :
    Calls Try.prog 92 #[.agg #[.int .i64 n, v], .int .i64 j] w fun e w' => e = .returned (.bool (bodyB n l && inB j 0 (n - 1))) ∧ Below w.heap.size w w' := by
  obtain ⟨A, c, rfl, h1, h2⟩ := h.form
  have hcon := implBodyOk_any n _ l _ (h.below (w' := w.alloc (.cells #[.int .i64 n, .slice A l.length c] 60)) (by (repeat' (first | (with_reducible exact Below.refl _ _) | (with_reducible assumption) | (with_reducible refine Below.setCell ?_ (by first | omega | (simp; omega) | (simp; done)) _) | (with_reducible refine Below.alloc ?_ (by first | omega | (simp; omega) | (simp; done)) _) | (with_reducible refine Below.drew ?_) | (with_reducible refine below_drewN ?_ _)))))
  cases hv : bodyB n l
  · have Hv := Lib.hid hv
    rw [hv] at hcon
    clear hv
    go_enter Try.func92, Try.ntmps92
    go_wp2_with fail
    refine hcon.mono ?_
    rintro e w1 ⟨rfl, hb1⟩
    go_wp2_with fail
    go_ret
    exact ⟨ret_bool (by simp), bl_alloc hb1⟩
  · have Hv := Lib.hid hv
    rw [hv] at hcon
    have hn : 1 ≤ n ∧ n ≤ 12 := by rw [bodyB, Bool.and_eq_true, Bool.and_eq_true] at hv; exact inB_iff.1 hv.1.1
    clear hv
    go_enter Try.func92, Try.ntmps92
    go_wp2_with fail
    refine hcon.mono ?_
    rintro e w1 ⟨rfl, hb1⟩
    have k0 := carry (b := w.heap.size) (o := 0) (v := .int .i64 n) hb1 (by simp [go_sem])
    go_wp2_with (go_at_call 73; refine two (within_any _ _ _ _) (fun hq => ?_) (fun hq => ?_))
    all_goals
      go_ret
      exact ⟨ret_bool (by rw [hq.out]; rfl), bl_alloc hb1⟩
/- parts: the labels as a row -/
def rowN (n : Nat) (p : Nat → Nat) : List Int := (List.range n).map (fun j => ((p j : Nat) : Int))
theorem rowN_len (n : Nat) (p : Nat → Nat) : (rowN n p).length = n := by simp [rowN]
theorem rowN_get {n : Nat} {p : Nat → Nat} {j : Nat} (h : j < (rowN n p).length) : (rowN n p)[j] = ((p j : Nat) : Int) := by simp [rowN]
theorem rowN_set {n : Nat} {p : Nat → Nat} {i x : Nat} : (rowN n p).set i (x : Int) = rowN n (fun j => if j = i then x else p j) := by
  apply List.ext_getElem
  · simp [rowN]
  · intro j h1 h2
    rw [List.getElem_set, rowN_get, rowN_get]
    by_cases e : i = j
    · subst e; simp
    · rw [if_neg e, if_neg (fun h => e h.symm)]
theorem rowN_congr {n : Nat} {p q : Nat → Nat} (h : ∀ j, j < n → p j = q j) : rowN n p = rowN n q := by
  apply List.ext_getElem
  · simp [rowN]
  · intro j h1 h2
    rw [rowN_get, rowN_get, h j (by rw [rowN_len] at h1; exact h1)]
theorem rowN_zero (n : Nat) : List.replicate n (0 : Int) = rowN n (fun j => if j < 0 then j else 0) := by
  apply List.ext_getElem
  · simp [rowN]
  · intro j h1 h2
    rw [rowN_get, List.getElem_replicate]; rfl
theorem rowN_fill (n m : Nat) : (rowN n (fun j => if j < m then j else 0)).set m (m : Int) = rowN n (fun j => if j < m + 1 then j else 0) := by
  rw [rowN_set]
  refine rowN_congr (fun j _ => ?_)
  by_cases e : j = m
  · subst e; simp
  · rw [if_neg e]
    by_cases h : j < m
    · rw [if_pos h, if_pos (by omega)]
    · rw [if_neg h, if_neg (by omega)]
theorem rowN_full (n : Nat) : rowN n (fun j => if j < n then j else 0) = rowN n id := rowN_congr (fun j h => by simp [h])
def pF (l : List RLimb) (k : Nat) : Nat → Nat := uniFold ((l.take k).map limbE) id
theorem pF_zero (l : List RLimb) : pF l 0 = id := rfl
theorem pF_succ {l : List RLimb} {k : Nat} (hk : k < l.length) : pF l (k + 1) = uniStep (pF l k) (limbE l[k]) := by
  unfold pF uniFold
  rw [take_snoc_l l hk, List.map_append, List.foldl_append]; rfl
def treeAt (l : List RLimb) (k : Nat) : Bool := acyclic ((l.drop k).map limbE) (pF l k)
theorem treeAt_zero (l : List RLimb) : treeB l = treeAt l 0 := rfl
theorem treeAt_step {l : List RLimb} {k : Nat} (hk : k < l.length) : treeAt l k = (!(pF l k (limbE l[k]).1 == pF l k (limbE l[k]).2) && treeAt l (k + 1)) := by
  unfold treeAt
  rw [List.drop_eq_getElem_cons hk, List.map_cons, acyclic, pF_succ hk]
theorem treeAt_end (l : List RLimb) : treeAt l l.length = true := by unfold treeAt; rw [List.drop_length]; rfl
/-- the relabelling on its way -/
def midN (p : Nat → Nat) (x y i : Nat) : Nat → Nat := fun j => if j < i then (if p j = y then x else p j) else p j
theorem midN_zero (p : Nat → Nat) (x y : Nat) : midN p x y 0 = p := by funext j; simp [midN]
theorem midN_at (p : Nat → Nat) (x y i : Nat) : midN p x y i i = p i := by simp [midN]
theorem midN_t {n : Nat} {p : Nat → Nat} {x y i : Nat} (h : p i = y) : (rowN n (midN p x y i)).set i (x : Int) = rowN n (midN p x y (i + 1)) := by
  rw [rowN_set]
  refine rowN_congr (fun j _ => ?_)
  unfold midN
  by_cases e : j = i
  · subst e; simp [h]
  · rw [if_neg e]
    by_cases h1 : j < i
    · simp [h1, show j < i + 1 by omega]
    · simp [h1, show ¬ j < i + 1 by omega]
theorem midN_f {n : Nat} {p : Nat → Nat} {x y i : Nat} (h : p i ≠ y) : rowN n (midN p x y i) = rowN n (midN p x y (i + 1)) := by
  refine rowN_congr (fun j _ => ?_)
  unfold midN
  by_cases e : j = i
  · subst e; simp [h]
  · by_cases h1 : j < i
    · simp [h1, show j < i + 1 by omega]
    · simp [h1, show ¬ j < i + 1 by omega]
theorem midN_end {n : Nat} {p : Nat → Nat} {e : Edge} : rowN n (midN p (p e.1) (p e.2) n) = rowN n (uniStep p e) := by
  refine rowN_congr (fun j h => ?_)
  unfold midN uniStep relabel
  rw [if_pos h]
end Go.Proofs.Ythponccjbbkhaaa
