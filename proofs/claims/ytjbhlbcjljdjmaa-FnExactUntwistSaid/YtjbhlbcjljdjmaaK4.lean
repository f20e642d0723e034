/- Contracts: upTo, AllPuppets. -/
import Derived.Test.YtjbhlbcjljdjmaaK3
import Derived.Test.YtjbhlbcjljdjmaaM3
namespace Go.Proofs.Ytjbhlbcjljdjmaa
open Go.RowKit

def upN (n : Nat) : List Int := (List.range n).map (fun i : Nat => (i : Int))
theorem upN_succ (n : Nat) : upN (n + 1) = upN n ++ [(n : Int)] := by unfold upN; rw [List.range_succ, List.map_append]; rfl
theorem upN_len (n : Nat) : (upN n).length = n := by simp [upN]
def upF (n : Int) : List Int := upN n.toNat
set_option maxHeartbeats 1000000 in
set_option maxRecDepth 100000 in
theorem upTo_any (n : Nat) (w : World) (hn : n ≤ 100000) :
    Calls Try.prog 66 #[.int .i64 n] w fun e w' => ∃ v', e = .returned v' ∧ w'.ownsRow w.heap.size 3 1 v' (upN n).length ((upN n).flatMap cInt) ∧ Below w.heap.size w w' := by
  obtain ⟨i0, hi0, hz0, hz1, hz2⟩ := info_parts infoInt
  go_enter Try.func66, Try.ntmps66
  go_wp2_with fail
  go_loopw [3, 7] (fun q i wr => ∃ k : Nat, k ≤ n ∧ i = .int .i64 k ∧ wr.ownsRow w.heap.size 3 1 q k ((upN k).flatMap cInt) ∧ Below w.heap.size w wr) (fun _ i _ => n - (intOf i).toNat)
  case atStart => exact ⟨0, Nat.zero_le _, rfl, World.ownsRow_made (size := 1) (e := 3) w #[] 0 (Nat.le_refl _) (by simp [maxLen]) rfl, by (repeat' (first | exact Below.refl _ _ | (refine Below.setCell ?_ (by first | omega | (simp; omega) | (simp; done)) _) | (refine Below.alloc ?_ (by first | omega | (simp; omega) | (simp; done)) _) | (refine Below.drew ?_) | (refine below_drewN ?_ _) | (refine Below.trans ?_ (Below.mono (by assumption) (by first | omega | (simp; omega) | (simp; done))))))⟩
  case round =>
    obtain ⟨k, hk, rfl, hown, hb⟩ := hrel
    have hz := hb.size
    have Hs := Lib.hid (upN_succ k)
    by_cases hlt : k < n
    · go_wp2_with (at_builtin; refine wpList_appendR _ rfl (.tmp 10) (.tmp 12) _ rfl w.heap.size 3 i0 _ 1 8 Try.underlying28 hi0 hz0 hz1 hz2 rfl (by omega) _ k ((upN k).flatMap cInt) rfl (hown.alloc _) _ 1 [.int .i64 k] rfl (rdS_new wr #[.int .i64 k] _ 1 1 rfl (by simp [maxLen])) (by simp [Value.oneCell']) (by simp [maxLen]; omega) (by omega) (by simp; omega) ?_; intro v2 w2 hown2 hgr2)
      have hb2 : Below w.heap.size (wr.alloc (Obj.cells #[.int .i64 k] 3)) w2 := below_own (hown.alloc _) hgr2 (by simp; omega)
      clear hgr2
      go_wp2_with fail
      go_roundw
      case rel => exact ⟨k + 1, by omega, by go_num, by rw [Hs.out, List.flatMap_append]; exact hown2, (hb.alloc (by omega) _).trans hb2⟩
      case measure => simp [intOf]; omega
    · obtain rfl : k = n := by omega
      go_wp2_with fail
      go_ret
      rw [upN_len]
      exact ⟨_, rfl, hown, hb⟩
set_option maxHeartbeats 1000000 in
set_option maxRecDepth 100000 in
theorem l08Start_any (n : Nat) (w : World) (hn : n ≤ 100000) :
    Calls Try.prog 100 #[.int .i64 n] w fun e w' => ∃ v', e = .returned v' ∧ w'.ownsRow w.heap.size 3 1 v' (upN n).length ((upN n).flatMap cInt) ∧ Below w.heap.size w w' := by
  obtain ⟨i0, hi0, hz0, hz1, hz2⟩ := info_parts infoInt
  go_enter Try.func100, Try.ntmps100
  go_wp2_with fail
  go_loopw [3, 4] (fun q i wr => ∃ k : Nat, k ≤ n ∧ i = .int .i64 k ∧ wr.ownsRow w.heap.size 3 1 q k ((upN k).flatMap cInt) ∧ Below w.heap.size w wr) (fun _ i _ => n - (intOf i).toNat)
  case atStart => exact ⟨0, Nat.zero_le _, rfl, World.ownsRow_made (size := 1) (e := 3) w #[] 0 (Nat.le_refl _) (by simp [maxLen]) rfl, by (repeat' (first | exact Below.refl _ _ | (refine Below.setCell ?_ (by first | omega | (simp; omega) | (simp; done)) _) | (refine Below.alloc ?_ (by first | omega | (simp; omega) | (simp; done)) _) | (refine Below.drew ?_) | (refine below_drewN ?_ _) | (refine Below.trans ?_ (Below.mono (by assumption) (by first | omega | (simp; omega) | (simp; done))))))⟩
  case round =>
    obtain ⟨k, hk, rfl, hown, hb⟩ := hrel
    have hz := hb.size
    have Hs := Lib.hid (upN_succ k)
    by_cases hlt : k < n
    · go_wp2_with (at_builtin; refine wpList_appendR _ rfl (.tmp 11) (.tmp 13) _ rfl w.heap.size 3 i0 _ 1 8 Try.underlying28 hi0 hz0 hz1 hz2 rfl (by omega) _ k ((upN k).flatMap cInt) rfl (hown.alloc _) _ 1 [.int .i64 k] rfl (rdS_new wr #[.int .i64 k] _ 1 1 rfl (by simp [maxLen])) (by simp [Value.oneCell']) (by simp [maxLen]; omega) (by omega) (by simp; omega) ?_; intro v2 w2 hown2 hgr2)
      have hb2 : Below w.heap.size (wr.alloc (Obj.cells #[.int .i64 k] 3)) w2 := below_own (hown.alloc _) hgr2 (by simp; omega)
      clear hgr2
      go_wp2_with fail
      go_roundw
      case rel => exact ⟨k + 1, by omega, by go_num, by rw [Hs.out, List.flatMap_append]; exact hown2, (hb.alloc (by omega) _).trans hb2⟩
      case measure => simp [intOf]; omega
    · obtain rfl : k = n := by omega
      go_wp2_with fail
      go_ret
      rw [upN_len]
      exact ⟨_, rfl, hown, hb⟩
def allPF (n : Int) (cs : List RCross) (ps : List RPl) : List Int := if companyB n cs ps = true then upF n else []
theorem company_n {n : Int} {cs : List RCross} {ps : List RPl} (h : companyB n cs ps = true) : crossesB n cs = true ∧ playersB ps = true := by rwa [companyB, Bool.and_eq_true] at h
theorem allPF_len (n : Int) (cs : List RCross) (ps : List RPl) : (allPF n cs ps).length ≤ 7 := by
  unfold allPF
  split
  · rename_i h
    have := (crosses_len (company_n h).1).1
    rw [upF, upN_len]; omega
  · simp
theorem allPF_t {n : Int} {cs : List RCross} {ps : List RPl} (h : companyB n cs ps = true) : allPF n cs ps = upF n := if_pos h
theorem allPF_f {n : Int} {cs : List RCross} {ps : List RPl} (h : companyB n cs ps = false) : allPF n cs ps = [] := if_neg (by rw [h]; simp)
set_option maxHeartbeats 1000000 in
theorem implAllPuppets_any (n : Int) (v1 v2 : Value) (cs : List RCross) (ps : List RPl) (w : World) (h : RdCompany w v1 v2 cs ps) :
    Calls Try.prog 38 #[.agg #[.int .i64 n, v1, v2]] w fun e w' => ∃ v', e = .returned v' ∧ w'.ownsRow w.heap.size 3 1 v' (allPF n cs ps).length ((allPF n cs ps).flatMap cInt) ∧ Below w.heap.size w w' := by
  obtain ⟨⟨A1, c1, rfl⟩, ⟨A2, c2, rfl⟩⟩ := h.forms
  go_enter Try.func38, Try.ntmps38
  go_wp2_with fail
  refine twoB (implCompanyOk_any n _ _ cs ps _ (h.below (by (repeat' (first | exact Below.refl _ _ | (refine Below.setCell ?_ (by first | omega | (simp; omega) | (simp; done)) _) | (refine Below.alloc ?_ (by first | omega | (simp; omega) | (simp; done)) _) | (refine Below.drew ?_) | (refine below_drewN ?_ _) | (refine Below.trans ?_ (Below.mono (by assumption) (by first | omega | (simp; omega) | (simp; done))))))))) (fun w' hq hb => ?_) (fun w' hq hb => ?_)
  · have k0 := carry (b := w.heap.size) (o := 0) (v := .int .i64 n) hb (by simp [go_sem])
    have hn := (crosses_len (company_n hq.out).1).1
    have hb' := bl_alloc hb
    obtain ⟨m, rfl⟩ := Int.eq_ofNat_of_zero_le (show 0 ≤ n by omega)
    go_wp2_with (go_at_call 66; refine (upTo_any m _ (by omega)).mono ?_; rintro e w2 ⟨v2, rfl, hown, hb2⟩)
    go_ret
    rw [allPF_t hq.out]
    exact ⟨_, rfl, own_mono hown hb'.size, bl_trans hb' hb2⟩
  · go_wp2_with fail
    go_ret
    rw [allPF_f hq.out]
    exact ⟨_, rfl, World.ownsRow_nil _ _ _ _, bl_alloc hb⟩
set_option maxHeartbeats 1000000 in
theorem specAllPuppets_any (n : Int) (v1 v2 : Value) (cs : List RCross) (ps : List RPl) (w : World) (h : RdCompany w v1 v2 cs ps) :
    Calls Try.prog 60 #[.agg #[.int .i64 n, v1, v2]] w fun e w' => ∃ v', e = .returned v' ∧ w'.ownsRow w.heap.size 3 1 v' (allPF n cs ps).length ((allPF n cs ps).flatMap cInt) ∧ Below w.heap.size w w' := by
  obtain ⟨⟨A1, c1, rfl⟩, ⟨A2, c2, rfl⟩⟩ := h.forms
  go_enter Try.func60, Try.ntmps60
  go_wp2_with fail
  refine twoB (specCompanyOk_any n _ _ cs ps _ (h.below (by (repeat' (first | exact Below.refl _ _ | (refine Below.setCell ?_ (by first | omega | (simp; omega) | (simp; done)) _) | (refine Below.alloc ?_ (by first | omega | (simp; omega) | (simp; done)) _) | (refine Below.drew ?_) | (refine below_drewN ?_ _) | (refine Below.trans ?_ (Below.mono (by assumption) (by first | omega | (simp; omega) | (simp; done))))))))) (fun w' hq hb => ?_) (fun w' hq hb => ?_)
  · have k0 := carry (b := w.heap.size) (o := 0) (v := .int .i64 n) hb (by simp [go_sem])
    have hn := (crosses_len (company_n hq.out).1).1
    have hb' := bl_alloc hb
    obtain ⟨m, rfl⟩ := Int.eq_ofNat_of_zero_le (show 0 ≤ n by omega)
    go_wp2_with (go_at_call 100; refine (l08Start_any m _ (by omega)).mono ?_; rintro e w2 ⟨v2, rfl, hown, hb2⟩)
    go_ret
    rw [allPF_t hq.out]
    exact ⟨_, rfl, own_mono hown hb'.size, bl_trans hb' hb2⟩
  · have hb' := bl_alloc hb
    go_wp2_with fail
    go_ret
    rw [allPF_f hq.out]
    exact ⟨_, rfl, own_mono (World.ownsRow_made (size := 1) (e := 3) w' #[] 0 (Nat.le_refl _) (by simp [maxLen]) rfl) hb'.size, hb'.alloc hb'.size _⟩
end Go.Proofs.Ytjbhlbcjljdjmaa
