/- Contracts: Renewed. -/
import Derived.Test.YtghjjaijmlkbdaaA5
import Derived.Test.YtghjjaijmlkbdaaM3
namespace Go.Proofs.Ytghjjaijmlkbdaa
open Go.RowKit
def renF (m : Int) (t : RThread) : RThread := if t.1 - t.2 < m then (t.1, 0) else t
def renN (m : Int) (l : List RThread) : Nat := l.countP (fun t => decide (t.1 - t.2 < m))
def renTo (m : Int) (l : List RThread) (k : Nat) : List RThread := (l.take k).map (renF m) ++ l.drop k
theorem renTo_len (m : Int) (l : List RThread) (k : Nat) : (renTo m l k).length = l.length := by unfold renTo; simp; omega
theorem renTo_get {m : Int} {l : List RThread} {k : Nat} (h : k < l.length) (hk : k < (renTo m l k).length) : (renTo m l k)[k] = l[k] := by
  have hA : ((l.take k).map (renF m)).length = k := by simp; omega
  have e : (renTo m l k)[k]? = some l[k] := by
    unfold renTo
    rw [List.getElem?_append_right (by omega), hA, Nat.sub_self, List.getElem?_drop, Nat.add_zero, List.getElem?_eq_getElem h]
  rw [List.getElem?_eq_getElem hk] at e
  injection e
theorem renTo_succ {m : Int} {l : List RThread} {k : Nat} (h : k < l.length) : renTo m l (k + 1) = (renTo m l k).set k (renF m l[k]) := by
  have hA : ((l.take k).map (renF m)).length = k := by simp; omega
  unfold renTo
  rw [List.drop_eq_getElem_cons h, List.set_append_right _ _ (by omega), hA, Nat.sub_self, List.set_cons_zero, List.take_succ_eq_append_getElem h, List.map_append, List.append_assoc]
  rfl
theorem renN_succ {m : Int} {l : List RThread} {k : Nat} (h : k < l.length) : renN m (l.take (k + 1)) = renN m (l.take k) + if l[k].1 - l[k].2 < m then 1 else 0 := by
  unfold renN
  rw [List.take_succ_eq_append_getElem h, List.countP_append]
  simp [List.countP_cons]
def renOk (m : Int) (l : List RThread) : Bool := thrsB l && inB m 0 10000
/-- What Renewed hands back. -/
def renL (m : Int) (l : List RThread) : List RThread := if renOk m l = true then l.map (renF m) else l
def renK (m : Int) (l : List RThread) : Int := if renOk m l = true then renN m l else -1
theorem renL_len (m : Int) (l : List RThread) : (renL m l).length = l.length := by unfold renL; split <;> simp
theorem ren_f {m : Int} {l : List RThread} (h : renOk m l = false) : renL m l = l ∧ renK m l = -1 := by unfold renL renK; rw [h]; exact ⟨rfl, rfl⟩
theorem ren_t {m : Int} {l : List RThread} (h1 : thrsB l = true) (h2 : inB m 0 10000 = true) : renL m l = l.map (renF m) ∧ renK m l = renN m l := by
  have h : renOk m l = true := by rw [renOk, h1, h2]; rfl
  unfold renL renK; rw [if_pos h, if_pos h]; exact ⟨rfl, rfl⟩
theorem cThread_one (a : RThread) : ∀ y ∈ cThread a, y.oneCell' = true := by intro y hy; simp [cThread] at hy; rcases hy with rfl | rfl <;> rfl

set_option maxHeartbeats 2000000 in
set_option maxRecDepth 100000 in
theorem implRenewed_any (v : Value) (l : List RThread) (m : Int) (w : World) (h : RdL cThread 2 w v l) (hl : l.length ≤ 1048576) :
    Calls Try.prog 36 #[v, .int .i64 m] w fun e w' => ∃ v', e = .returned (.tuple #[v', .int .i64 (renK m l)]) ∧ w'.ownsRow w.heap.size 24 2 v' l.length ((renL m l).flatMap cThread) ∧ Below w.heap.size w w' := by
  obtain ⟨A, c, rfl, h1, h2⟩ := h.form
  obtain ⟨i0, hi0, hz0, hz1, hz2⟩ := info_parts infoThread
  go_enter Try.func36, Try.ntmps36
  go_wp2_with (at_builtin; refine wpList_appendR _ rfl (.tmp 10) (.tmp 11) _ rfl w.heap.size 24 i0 _ 2 16 Try.underlying45 hi0 hz0 hz1 hz2 rfl (by omega) _ 0 [] rfl (World.ownsRow_made (size := 2) (e := 24) w #[] 0 (Nat.le_refl _) (by simp [maxLen]) rfl) _ l.length (l.flatMap cThread) rfl (RdS.keep h (fun p u hu => cell_alloc _ hu)) (oneCell_flat cThread_one l) (by simp [maxLen]; omega) (by omega) (by simp) ?_; intro v1 w1 hown hgr)
  have hb1 : Below w.heap.size w w1 := Below.trans ((Below.refl _ _).alloc (Nat.le_refl _) _) (below_own (World.ownsRow_made (size := 2) (e := 24) w #[] 0 (Nat.le_refl _) (by simp [maxLen]) rfl) hgr (by simp))
  clear hgr
  rw [Nat.zero_add, List.nil_append] at hown
  have hz1' := hb1.size
  obtain ⟨A1, d1, rfl, h3, h4⟩ := (RdS.of_own hown).form
  simp only [maxLen] at h4
  go_wp2_with (first
    | (go_at_call 60; refine twoB (areThreads_any _ _ _ (h.below hb1)) (fun w' ht hb => ?_) (fun w' ht hb => ?_) <;> have hz2' := hb.size)
    | (go_at_call 58; refine two (within_any _ _ _ _) (fun hc => ?_) (fun hc => ?_)))
  · have hown2 := own_below hown hb
    go_loopw [7, 24] (fun q i wr => ∃ k : Nat, k ≤ l.length ∧ i = .int .i64 k ∧ q = .int .i64 (renN m (l.take k)) ∧ wr.ownsRow w.heap.size 24 2 (.slice A1 l.length d1) l.length ((renTo m l k).flatMap cThread) ∧ Below w.heap.size w wr) (fun _ i _ => l.length - (intOf i).toNat)
    case atStart => exact ⟨0, Nat.zero_le _, rfl, rfl, by simpa [renTo] using hown2, by (repeat' (first | exact Below.refl _ _ | (refine Below.setCell ?_ (by first | omega | (simp; omega) | (simp; done)) _) | (refine Below.alloc ?_ (by first | omega | (simp; omega) | (simp; done)) _) | (refine Below.drew ?_) | (refine below_drewN ?_ _) | (refine Below.trans ?_ (Below.mono (by assumption) (by first | omega | (simp; omega) | (simp; done))))))⟩
    case round =>
      obtain ⟨k, hk, rfl, rfl, hown3, hb3⟩ := hrel
      have hz3 := hb3.size
      by_cases hlt : k < l.length
      · have hLl := renTo_len m l k
        have hkL : k < (renTo m l k).length := by omega
        obtain ⟨g, cap, hv⟩ := own_form hown3 (by omega)
        injection hv with hv1 hv2 hv3
        subst hv1 hv3
        have hrd : RdL cThread 2 wr (.slice (some ⟨g, 0, none⟩) (renTo m l k).length d1) (renTo m l k) := by
          have := RdS.of_own hown3
          rw [← hLl] at this
          exact this
        obtain ⟨g', off', hAA, hg, hc⟩ := hrd.cell cThread_len (by omega) hkL
        injection hAA with hAA
        injection hAA with e1 e2
        subst e1 e2
        rw [renTo_get hlt hkL] at hc
        have k0 := hc 0 _ rfl
        have k1 := hc 1 _ rfl
        simp only [Nat.add_zero, Nat.zero_add] at k0 k1
        have f1 := hown3.frozenAt (k * 2 + 1)
        have hge := (hown3.lt g rfl).1
        have bd1 := thr_bd ht.out hlt
        have hcnt := renN_succ (m := m) hlt
        have Hcnt := Lib.hid hcnt
        have hto := renTo_succ (m := m) hlt
        have Hto := Lib.hid hto
        have hcl : renN m (l.take k) ≤ l.length := Nat.le_trans List.countP_le_length (List.length_take_le' _ _)
        clear hcnt hto hc hrd hLl
        by_cases hd : l[k].1 - l[k].2 < m
        · have hset := (hown3.stored (k * 2 + 1) (.int .i64 0)).1
          rw [flat_set cThread_len (renTo m l k) k hkL 1 (by omega) (.int .i64 0) (l[k].1, 0) (by rw [renTo_get hlt hkL]; rfl)] at hset
          go_wp2_with fail
          go_roundw
          case rel => exact ⟨k + 1, by omega, by go_num, int_eq (by rw [Hcnt.out, if_pos hd]; omega), by rw [Hto.out, renF, if_pos hd]; exact hset.alloc _, by (repeat' (first | exact Below.refl _ _ | (refine Below.setCell ?_ (by first | omega | (simp; omega) | (simp; done)) _) | (refine Below.alloc ?_ (by first | omega | (simp; omega) | (simp; done)) _) | (refine Below.drew ?_) | (refine below_drewN ?_ _) | (refine Below.trans ?_ (Below.mono (by assumption) (by first | omega | (simp; omega) | (simp; done))))))⟩
          case measure => simp [intOf]; omega
        · go_wp2_with fail
          go_roundw
          case rel => exact ⟨k + 1, by omega, by go_num, int_eq (by rw [Hcnt.out, if_neg hd]; omega), by rw [Hto.out, renF, if_neg hd, ← renTo_get hlt hkL, List.set_getElem_self]; exact hown3.alloc _, by (repeat' (first | exact Below.refl _ _ | (refine Below.setCell ?_ (by first | omega | (simp; omega) | (simp; done)) _) | (refine Below.alloc ?_ (by first | omega | (simp; omega) | (simp; done)) _) | (refine Below.drew ?_) | (refine below_drewN ?_ _) | (refine Below.trans ?_ (Below.mono (by assumption) (by first | omega | (simp; omega) | (simp; done))))))⟩
          case measure => simp [intOf]; omega
      · go_wp2_with fail
        go_ret2
        have hkn : k = l.length := by omega
        subst hkn
        obtain ⟨e1, e2⟩ := ren_t ht.out hc.out
        rw [e1, e2]
        refine ⟨_, ?_, by simpa [renTo] using hown3, by (repeat' (first | exact Below.refl _ _ | (refine Below.setCell ?_ (by first | omega | (simp; omega) | (simp; done)) _) | (refine Below.alloc ?_ (by first | omega | (simp; omega) | (simp; done)) _) | (refine Below.drew ?_) | (refine below_drewN ?_ _) | (refine Below.trans ?_ (Below.mono (by assumption) (by first | omega | (simp; omega) | (simp; done))))))⟩
        rw [List.take_of_length_le (Nat.le_refl _)]
        rfl
  · go_ret2
    obtain ⟨e1, e2⟩ := ren_f (m := m) (l := l) (by rw [renOk, hc.out, Bool.and_false])
    rw [e1, e2]
    exact ⟨_, rfl, own_below hown hb, by (repeat' (first | exact Below.refl _ _ | (refine Below.setCell ?_ (by first | omega | (simp; omega) | (simp; done)) _) | (refine Below.alloc ?_ (by first | omega | (simp; omega) | (simp; done)) _) | (refine Below.drew ?_) | (refine below_drewN ?_ _) | (refine Below.trans ?_ (Below.mono (by assumption) (by first | omega | (simp; omega) | (simp; done))))))⟩
  · go_ret2
    obtain ⟨e1, e2⟩ := ren_f (m := m) (l := l) (by rw [renOk, ht.out, Bool.false_and])
    rw [e1, e2]
    exact ⟨_, rfl, own_below hown hb, by (repeat' (first | exact Below.refl _ _ | (refine Below.setCell ?_ (by first | omega | (simp; omega) | (simp; done)) _) | (refine Below.alloc ?_ (by first | omega | (simp; omega) | (simp; done)) _) | (refine Below.drew ?_) | (refine below_drewN ?_ _) | (refine Below.trans ?_ (Below.mono (by assumption) (by first | omega | (simp; omega) | (simp; done))))))⟩

set_option maxHeartbeats 2000000 in
set_option maxRecDepth 100000 in
theorem specRenewed_any (v : Value) (l : List RThread) (m : Int) (w : World) (h : RdL cThread 2 w v l) (hl : l.length ≤ 1048576) :
    Calls Try.prog 40 #[v, .int .i64 m] w fun e w' => ∃ v', e = .returned (.tuple #[v', .int .i64 (renK m l)]) ∧ w'.ownsRow w.heap.size 24 2 v' l.length ((renL m l).flatMap cThread) ∧ Below w.heap.size w w' := by
  obtain ⟨A, c, rfl, h1, h2⟩ := h.form
  obtain ⟨i0, hi0, hz0, hz1, hz2⟩ := info_parts infoThread
  go_enter Try.func40, Try.ntmps40
  go_wp2_with (at_builtin; refine wpList_appendR _ rfl (.tmp 9) (.tmp 10) _ rfl w.heap.size 24 i0 _ 2 16 Try.underlying45 hi0 hz0 hz1 hz2 rfl (by omega) _ 0 [] rfl (World.ownsRow_made (size := 2) (e := 24) w #[] 0 (Nat.le_refl _) (by simp [maxLen]) rfl) _ l.length (l.flatMap cThread) rfl (RdS.keep h (fun p u hu => cell_alloc _ hu)) (oneCell_flat cThread_one l) (by simp [maxLen]; omega) (by omega) (by simp) ?_; intro v1 w1 hown hgr)
  have hb1 : Below w.heap.size w w1 := Below.trans ((Below.refl _ _).alloc (Nat.le_refl _) _) (below_own (World.ownsRow_made (size := 2) (e := 24) w #[] 0 (Nat.le_refl _) (by simp [maxLen]) rfl) hgr (by simp))
  clear hgr
  rw [Nat.zero_add, List.nil_append] at hown
  have hz1' := hb1.size
  obtain ⟨A1, d1, rfl, h3, h4⟩ := (RdS.of_own hown).form
  simp only [maxLen] at h4
  go_wp2_with (first
    | (go_at_call 59; refine twoB (l34Ok_any _ _ _ (h.below hb1)) (fun w' ht hb => ?_) (fun w' ht hb => ?_) <;> have hz2' := hb.size)
    | (go_at_call 57; refine two (l01In_any _ _ _ _) (fun hc => ?_) (fun hc => ?_)))
  · have hown2 := own_below hown hb
    go_loopw [7, 8] (fun q i wr => ∃ k : Nat, k ≤ l.length ∧ i = .int .i64 k ∧ q = .int .i64 (renN m (l.take k)) ∧ wr.ownsRow w.heap.size 24 2 (.slice A1 l.length d1) l.length ((renTo m l k).flatMap cThread) ∧ Below w.heap.size w wr) (fun _ i _ => l.length - (intOf i).toNat)
    case atStart => exact ⟨0, Nat.zero_le _, rfl, rfl, by simpa [renTo] using hown2, by (repeat' (first | exact Below.refl _ _ | (refine Below.setCell ?_ (by first | omega | (simp; omega) | (simp; done)) _) | (refine Below.alloc ?_ (by first | omega | (simp; omega) | (simp; done)) _) | (refine Below.drew ?_) | (refine below_drewN ?_ _) | (refine Below.trans ?_ (Below.mono (by assumption) (by first | omega | (simp; omega) | (simp; done))))))⟩
    case round =>
      obtain ⟨k, hk, rfl, rfl, hown3, hb3⟩ := hrel
      have hz3 := hb3.size
      by_cases hlt : k < l.length
      · have hLl := renTo_len m l k
        have hkL : k < (renTo m l k).length := by omega
        obtain ⟨g, cap, hv⟩ := own_form hown3 (by omega)
        injection hv with hv1 hv2 hv3
        subst hv1 hv3
        have hrd : RdL cThread 2 wr (.slice (some ⟨g, 0, none⟩) (renTo m l k).length d1) (renTo m l k) := by
          have := RdS.of_own hown3
          rw [← hLl] at this
          exact this
        obtain ⟨g', off', hAA, hg, hc⟩ := hrd.cell cThread_len (by omega) hkL
        injection hAA with hAA
        injection hAA with e1 e2
        subst e1 e2
        rw [renTo_get hlt hkL] at hc
        have k0 := hc 0 _ rfl
        have k1 := hc 1 _ rfl
        simp only [Nat.add_zero, Nat.zero_add] at k0 k1
        have f1 := hown3.frozenAt (k * 2 + 1)
        have hge := (hown3.lt g rfl).1
        have bd1 := thr_bd ht.out hlt
        have hcnt := renN_succ (m := m) hlt
        have Hcnt := Lib.hid hcnt
        have hto := renTo_succ (m := m) hlt
        have Hto := Lib.hid hto
        have hcl : renN m (l.take k) ≤ l.length := Nat.le_trans List.countP_le_length (List.length_take_le' _ _)
        clear hcnt hto hc hrd hLl
        go_wp2_with fail
        go_quiet (fail)
        rename_i nq
        replace hown3 : (wr.drewN nq).ownsRow w.heap.size 24 2 (.slice (some ⟨g, 0, none⟩) l.length d1) l.length ((renTo m l k).flatMap cThread) := hown3
        by_cases hd : l[k].1 - l[k].2 < m
        · have hset := (hown3.stored (k * 2 + 1) (.int .i64 0)).1
          rw [flat_set cThread_len (renTo m l k) k hkL 1 (by omega) (.int .i64 0) (l[k].1, 0) (by rw [renTo_get hlt hkL]; rfl)] at hset
          go_wp2_with fail
          go_roundw
          case rel => exact ⟨k + 1, by omega, by go_num, int_eq (by rw [Hcnt.out, if_pos hd]; omega), by rw [Hto.out, renF, if_pos hd]; exact hset, by (repeat' (first | exact Below.refl _ _ | (refine Below.setCell ?_ (by first | omega | (simp; omega) | (simp; done)) _) | (refine Below.alloc ?_ (by first | omega | (simp; omega) | (simp; done)) _) | (refine Below.drew ?_) | (refine below_drewN ?_ _) | (refine Below.trans ?_ (Below.mono (by assumption) (by first | omega | (simp; omega) | (simp; done))))))⟩
          case measure => simp [intOf]; omega
        · go_wp2_with fail
          go_roundw
          case rel => exact ⟨k + 1, by omega, by go_num, int_eq (by rw [Hcnt.out, if_neg hd]; omega), by rw [Hto.out, renF, if_neg hd, ← renTo_get hlt hkL, List.set_getElem_self]; exact hown3, by (repeat' (first | exact Below.refl _ _ | (refine Below.setCell ?_ (by first | omega | (simp; omega) | (simp; done)) _) | (refine Below.alloc ?_ (by first | omega | (simp; omega) | (simp; done)) _) | (refine Below.drew ?_) | (refine below_drewN ?_ _) | (refine Below.trans ?_ (Below.mono (by assumption) (by first | omega | (simp; omega) | (simp; done))))))⟩
          case measure => simp [intOf]; omega
      · go_wp2_with fail
        go_ret2
        have hkn : k = l.length := by omega
        subst hkn
        obtain ⟨e1, e2⟩ := ren_t ht.out hc.out
        rw [e1, e2]
        refine ⟨_, ?_, by simpa [renTo] using hown3, by (repeat' (first | exact Below.refl _ _ | (refine Below.setCell ?_ (by first | omega | (simp; omega) | (simp; done)) _) | (refine Below.alloc ?_ (by first | omega | (simp; omega) | (simp; done)) _) | (refine Below.drew ?_) | (refine below_drewN ?_ _) | (refine Below.trans ?_ (Below.mono (by assumption) (by first | omega | (simp; omega) | (simp; done))))))⟩
        rw [List.take_of_length_le (Nat.le_refl _)]
        rfl
  · go_ret2
    obtain ⟨e1, e2⟩ := ren_f (m := m) (l := l) (by rw [renOk, hc.out, Bool.and_false])
    rw [e1, e2]
    exact ⟨_, rfl, own_below hown hb, by (repeat' (first | exact Below.refl _ _ | (refine Below.setCell ?_ (by first | omega | (simp; omega) | (simp; done)) _) | (refine Below.alloc ?_ (by first | omega | (simp; omega) | (simp; done)) _) | (refine Below.drew ?_) | (refine below_drewN ?_ _) | (refine Below.trans ?_ (Below.mono (by assumption) (by first | omega | (simp; omega) | (simp; done))))))⟩
  · go_ret2
    obtain ⟨e1, e2⟩ := ren_f (m := m) (l := l) (by rw [renOk, ht.out, Bool.false_and])
    rw [e1, e2]
    exact ⟨_, rfl, own_below hown hb, by (repeat' (first | exact Below.refl _ _ | (refine Below.setCell ?_ (by first | omega | (simp; omega) | (simp; done)) _) | (refine Below.alloc ?_ (by first | omega | (simp; omega) | (simp; done)) _) | (refine Below.drew ?_) | (refine below_drewN ?_ _) | (refine Below.trans ?_ (Below.mono (by assumption) (by first | omega | (simp; omega) | (simp; done))))))⟩
theorem implRenewed_r (v : Value) (l : List RThread) (m : Int) (w : World) (h : RdL cThread 2 w v l) (hl : l.length ≤ 1048576) :
    Calls Try.prog 36 #[v, .int .i64 m] w fun e w' => ∃ v', e = .returned (.tuple #[v', .int .i64 (renK m l)]) ∧ w'.ownsRow w.heap.size 24 2 v' (renL m l).length ((renL m l).flatMap cThread) ∧ Below w.heap.size w w' := by
  rw [renL_len]; exact implRenewed_any v l m w h hl
theorem specRenewed_r (v : Value) (l : List RThread) (m : Int) (w : World) (h : RdL cThread 2 w v l) (hl : l.length ≤ 1048576) :
    Calls Try.prog 40 #[v, .int .i64 m] w fun e w' => ∃ v', e = .returned (.tuple #[v', .int .i64 (renK m l)]) ∧ w'.ownsRow w.heap.size 24 2 v' (renL m l).length ((renL m l).flatMap cThread) ∧ Below w.heap.size w w' := by
  rw [renL_len]; exact specRenewed_any v l m w h hl
end Go.Proofs.Ytghjjaijmlkbdaa
