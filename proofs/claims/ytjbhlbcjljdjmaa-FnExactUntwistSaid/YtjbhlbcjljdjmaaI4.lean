/- Contracts: put, sorted, OrderOk of the program. -/
import Derived.Test.YtjbhlbcjljdjmaaI3
namespace Go.Proofs.Ytjbhlbcjljdjmaa
open Go.RowKit

def putStep (n : Int) (s : Bool × List Int) (x : Int) : Bool × List Int := if s.1 = false ∧ n ≤ x then (true, s.2 ++ [n] ++ [x]) else (s.1, s.2 ++ [x])
def putSt (n : Int) (l : List Int) : Bool × List Int := l.foldl (putStep n) (false, [])
def putFin (n : Int) (s : Bool × List Int) : List Int := if s.1 = true then s.2 else s.2 ++ [n]
theorem putFold_t (n : Int) (l : List Int) : ∀ acc, l.foldl (putStep n) (true, acc) = (true, acc ++ l) := by
  induction l with
  | nil => intro acc; simp
  | cons x xs ih => intro acc; rw [List.foldl_cons]; simp [putStep, ih]
theorem putFold_f (n : Int) (l : List Int) : ∀ acc, putFin n (l.foldl (putStep n) (false, acc)) = acc ++ putF n l := by
  induction l with
  | nil => intro acc; simp [putFin, putF]
  | cons x xs ih =>
    intro acc
    rw [List.foldl_cons]
    by_cases h : n ≤ x
    · rw [show putStep n (false, acc) x = (true, acc ++ [n] ++ [x]) by simp [putStep, h], putFold_t]
      simp [putFin, putF, h]
    · rw [show putStep n (false, acc) x = (false, acc ++ [x]) by simp [putStep, h], ih]
      simp [putF, h]
theorem putSt_fin (n : Int) (l : List Int) : putFin n (putSt n l) = putF n l := by have := putFold_f n l []; simpa [putSt] using this
theorem putSt_succ (n : Int) (l : List Int) {k : Nat} (h : k < l.length) : putSt n (l.take (k + 1)) = putStep n (putSt n (l.take k)) l[k] := foldl_take_succ _ _ l h
theorem putStep_len (n : Int) (s : Bool × List Int) (x : Int) : (putStep n s x).2.length ≤ s.2.length + 1 + (if s.1 = false ∧ (putStep n s x).1 = true then 1 else 0) := by
  unfold putStep; split
  · rename_i h; simp [h.1]
  · simp
theorem putSt_len (n : Int) (l : List Int) (k : Nat) (hk : k ≤ l.length) : (putSt n (l.take k)).2.length ≤ k + (if (putSt n (l.take k)).1 = true then 1 else 0) := by
  induction k with
  | zero => simp [putSt]
  | succ k ih =>
    rw [putSt_succ n l (by omega)]
    have := ih (by omega)
    generalize putSt n (l.take k) = s at *
    obtain ⟨b, acc⟩ := s
    unfold putStep
    split
    · rename_i h; simp at h this ⊢; simp [h.1] at this; omega
    · simp at this ⊢; omega

set_option maxHeartbeats 2000000 in
set_option maxRecDepth 100000 in
theorem put_any (v : Value) (l : List Int) (n : Int) (w : World) (h : RdL cInt 1 w v l) (hl : l.length ≤ 16777216) :
    Calls Try.prog 129 #[v, .int .i64 n] w fun e w' => ∃ v', e = .returned v' ∧ w'.ownsRow w.heap.size 3 1 v' (putF n l).length ((putF n l).flatMap cInt) ∧ Below w.heap.size w w' := by
  obtain ⟨A, c, rfl, h1, h2⟩ := h.form
  obtain ⟨i0, hi0, hz0, hz1, hz2⟩ := info_parts infoInt
  go_enter Try.func129, Try.ntmps129
  go_wp2_with fail
  go_loopw [5, 6, 12] (fun q d i wr => ∃ (k : Nat) (b : Bool) (acc : List Int), k ≤ l.length ∧ i = .int .i64 k ∧ d = .bool b ∧ Hid (putSt n (l.take k) = (b, acc)) ∧ wr.ownsRow w.heap.size 3 1 q acc.length (acc.flatMap cInt) ∧ Below w.heap.size w wr) (fun _ _ i _ => l.length - (intOf i).toNat)
  case atStart => exact ⟨0, false, [], Nat.zero_le _, rfl, rfl, by rfl, World.ownsRow_made (size := 1) (e := 3) w #[] 0 (Nat.le_refl _) (by simp [maxLen]) rfl, by (repeat' (first | exact Below.refl _ _ | (refine Below.setCell ?_ (by first | omega | (simp; omega) | (simp; done)) _) | (refine Below.alloc ?_ (by first | omega | (simp; omega) | (simp; done)) _) | (refine Below.drew ?_) | (refine below_drewN ?_ _) | (refine Below.trans ?_ (Below.mono (by assumption) (by first | omega | (simp; omega) | (simp; done))))))⟩
  case round =>
    obtain ⟨k, b, acc, hk, rfl, rfl, hst, hown, hb⟩ := hrel
    have hz := hb.size
    have hal : acc.length ≤ k + 1 := by have := putSt_len n l k hk; rw [hst.out] at this; simp at this; split at this <;> omega
    by_cases hlt : k < l.length
    · have hr := h.below hb
      obtain ⟨g, off, rfl, hg, hc⟩ := hr.cell cInt_len (by omega) hlt
      have k0 := hc 0 _ rfl
      simp only [Nat.add_zero, Nat.mul_one] at k0
      clear hc
      have hsu := putSt_succ n l hlt
      rw [hst.out] at hsu
      have Hsu := Lib.hid hsu
      clear hsu
      by_cases hin : b = false ∧ n ≤ l[k]
      · obtain ⟨rfl, hin⟩ := hin
        go_wp2_with (first
          | (at_builtin; refine wpList_appendR _ rfl (.tmp 23) (.tmp 25) _ rfl w.heap.size 3 i0 _ 1 8 Try.underlying28 hi0 hz0 hz1 hz2 rfl (by omega) _ acc.length (acc.flatMap cInt) rfl (hown.alloc _) _ 1 [.int .i64 n] rfl (rdS_new wr #[.int .i64 n] _ 1 1 rfl (by simp [maxLen])) (by simp [Value.oneCell']) (by simp [maxLen]; omega) (by omega) (by simp; omega) ?_; intro v2 w2 hown2 hgr2; have hb2 : Below w.heap.size (wr.alloc (Obj.cells #[.int .i64 n] 3)) w2 := below_own (hown.alloc _) hgr2 (by simp; omega); clear hgr2; have hz2' := hb2.size; simp at hz2')
          | (at_builtin; refine wpList_appendR _ rfl (.tmp 27) (.tmp 29) _ rfl w.heap.size 3 i0 _ 1 8 Try.underlying28 hi0 hz0 hz1 hz2 rfl (by omega) _ (acc.length + 1) (acc.flatMap cInt ++ [.int .i64 n]) rfl (hown2.alloc _) _ 1 [.int .i64 l[k]] rfl (rdS_new w2 #[.int .i64 l[k]] _ 1 1 rfl (by simp [maxLen])) (by simp [Value.oneCell']) (by simp [maxLen]; omega) (by omega) (by simp; omega) ?_; intro v3 w3 hown3 hgr3))
        have hb3 : Below w.heap.size (w2.alloc (Obj.cells #[.int .i64 l[k]] 3)) w3 := below_own (hown2.alloc _) hgr3 (by simp; omega)
        clear hgr3
        go_wp2_with fail
        go_roundw
        case rel =>
          refine ⟨k + 1, true, acc ++ [n] ++ [l[k]], by omega, by go_num, rfl, ?_, ?_, ((hb.alloc (by omega) _).trans hb2 |>.alloc (by omega) _).trans hb3⟩
          · show _ = _
            rw [Hsu.out]; simp [putStep, hin]
          · rw [List.length_append, List.length_append, List.flatMap_append, List.flatMap_append]
            exact hown3
        case measure => simp [intOf]; omega
      · have hps : putStep n (b, acc) l[k] = (b, acc ++ [l[k]]) := by unfold putStep; rw [if_neg hin]
        have Hps := Lib.hid hps
        clear hps
        have hgd : b = true ∨ (b = false ∧ ¬ n ≤ l[k]) := by cases b <;> simp_all
        clear hin
        rcases hgd with rfl | ⟨rfl, hni⟩
        all_goals
          go_wp2_with (at_builtin; refine wpList_appendR _ rfl (.tmp 27) (.tmp 29) _ rfl w.heap.size 3 i0 _ 1 8 Try.underlying28 hi0 hz0 hz1 hz2 rfl (by omega) _ acc.length (acc.flatMap cInt) rfl (hown.alloc _) _ 1 [.int .i64 l[k]] rfl (rdS_new wr #[.int .i64 l[k]] _ 1 1 rfl (by simp [maxLen])) (by simp [Value.oneCell']) (by simp [maxLen]; omega) (by omega) (by simp; omega) ?_; intro v3 w3 hown3 hgr3)
          have hb3 : Below w.heap.size (wr.alloc (Obj.cells #[.int .i64 l[k]] 3)) w3 := below_own (hown.alloc _) hgr3 (by simp; omega)
          clear hgr3
          go_wp2_with fail
          go_roundw
          case rel =>
            refine ⟨k + 1, _, acc ++ [l[k]], by omega, by go_num, rfl, ?_, ?_, (hb.alloc (by omega) _).trans hb3⟩
            · show _ = _
              rw [Hsu.out, Hps.out]
            · rw [List.length_append, List.flatMap_append]
              exact hown3
          case measure => simp [intOf]; omega
    · obtain rfl : k = l.length := by omega
      have hfin := putSt_fin n l
      have hst' := hst.out
      rw [List.take_length] at hst'
      rw [hst'] at hfin
      have Hfin := Lib.hid hfin
      clear hfin hst'
      cases b
      · go_wp2_with (at_builtin; refine wpList_appendR _ rfl (.tmp 34) (.tmp 36) _ rfl w.heap.size 3 i0 _ 1 8 Try.underlying28 hi0 hz0 hz1 hz2 rfl (by omega) _ acc.length (acc.flatMap cInt) rfl (hown.alloc _) _ 1 [.int .i64 n] rfl (rdS_new wr #[.int .i64 n] _ 1 1 rfl (by simp [maxLen])) (by simp [Value.oneCell']) (by simp [maxLen]; omega) (by omega) (by simp; omega) ?_; intro v3 w3 hown3 hgr3)
        have hb3 : Below w.heap.size (wr.alloc (Obj.cells #[.int .i64 n] 3)) w3 := below_own (hown.alloc _) hgr3 (by simp; omega)
        clear hgr3
        go_wp2_with fail
        go_ret
        refine ⟨_, rfl, ?_, (hb.alloc (by omega) _).trans hb3⟩
        rw [← Hfin.out]
        show _root_.Go.World.ownsRow _ _ _ _ _ (acc ++ [n]).length ((acc ++ [n]).flatMap cInt)
        rw [List.length_append, List.flatMap_append]
        exact hown3
      · go_wp2_with fail
        go_ret
        refine ⟨_, rfl, ?_, hb⟩
        rw [← Hfin.out]
        exact hown
end Go.Proofs.Ytjbhlbcjljdjmaa
