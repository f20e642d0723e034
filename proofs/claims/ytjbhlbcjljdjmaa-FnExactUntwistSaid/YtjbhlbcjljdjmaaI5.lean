/- Contracts: sorted, OrderOk of the program and of the reference. -/
import Derived.Test.YtjbhlbcjljdjmaaI4
namespace Go.Proofs.Ytjbhlbcjljdjmaa
open Go.RowKit

theorem sortF_succ (l : List Int) {k : Nat} (h : k < l.length) : sortF (l.take (k + 1)) = putF l[k] (sortF (l.take k)) := foldl_take_succ _ _ l h
set_option maxHeartbeats 1000000 in
set_option maxRecDepth 100000 in
theorem sorted_any (v : Value) (l : List Int) (w : World) (h : RdL cInt 1 w v l) (hl : l.length ≤ 16777216) :
    Calls Try.prog 157 #[v] w fun e w' => ∃ v', e = .returned v' ∧ w'.ownsRow w.heap.size 3 1 v' (sortF l).length ((sortF l).flatMap cInt) ∧ Below w.heap.size w w' := by
  obtain ⟨A, c, rfl, h1, h2⟩ := h.form
  go_enter Try.func157, Try.ntmps157
  go_wp2_with fail
  go_loopw [3, 9] (fun q i wr => ∃ k : Nat, k ≤ l.length ∧ i = .int .i64 k ∧ wr.ownsRow w.heap.size 3 1 q (sortF (l.take k)).length ((sortF (l.take k)).flatMap cInt) ∧ Below w.heap.size w wr) (fun _ i _ => l.length - (intOf i).toNat)
  case atStart => exact ⟨0, Nat.zero_le _, rfl, World.ownsRow_made (size := 1) (e := 3) w #[] 0 (Nat.le_refl _) (by simp [maxLen]) rfl, by (repeat' (first | exact Below.refl _ _ | (refine Below.setCell ?_ (by first | omega | (simp; omega) | (simp; done)) _) | (refine Below.alloc ?_ (by first | omega | (simp; omega) | (simp; done)) _) | (refine Below.drew ?_) | (refine below_drewN ?_ _) | (refine Below.trans ?_ (Below.mono (by assumption) (by first | omega | (simp; omega) | (simp; done))))))⟩
  case round =>
    obtain ⟨k, hk, rfl, hown, hb⟩ := hrel
    have hz := hb.size
    by_cases hlt : k < l.length
    · have hr := h.below hb
      obtain ⟨g, off, rfl, hg, hc⟩ := hr.cell cInt_len (by omega) hlt
      have k0 := hc 0 _ rfl
      simp only [Nat.add_zero, Nat.mul_one] at k0
      clear hc
      have hsu := sortF_succ l hlt
      have Hsu := Lib.hid hsu
      clear hsu
      have hsl : (sortF (l.take k)).length ≤ 16777216 := by rw [sortF_len]; simp; omega
      go_wp2_with fail
      refine (put_any _ (sortF (l.take k)) l[k] _ (RdS.of_own hown) hsl).mono ?_
      rintro e w' ⟨v', rfl, hown', hb'⟩
      go_wp2_with fail
      go_roundw
      case rel => exact ⟨k + 1, by omega, by go_num, by rw [Hsu.out]; exact own_mono hown' hz, by (repeat' (first | exact Below.refl _ _ | (refine Below.setCell ?_ (by first | omega | (simp; omega) | (simp; done)) _) | (refine Below.alloc ?_ (by first | omega | (simp; omega) | (simp; done)) _) | (refine Below.drew ?_) | (refine below_drewN ?_ _) | (refine Below.trans ?_ (Below.mono (by assumption) (by first | omega | (simp; omega) | (simp; done))))))⟩
      case measure => simp [intOf]; omega
    · go_wp2_with fail
      go_ret
      rw [List.take_of_length_le (by omega)] at hown
      exact ⟨_, rfl, hown, by (repeat' (first | exact Below.refl _ _ | (refine Below.setCell ?_ (by first | omega | (simp; omega) | (simp; done)) _) | (refine Below.alloc ?_ (by first | omega | (simp; omega) | (simp; done)) _) | (refine Below.drew ?_) | (refine below_drewN ?_ _) | (refine Below.trans ?_ (Below.mono (by assumption) (by first | omega | (simp; omega) | (simp; done))))))⟩

theorem order_f1 {l : List Int} (h : inB l.length 1 7 = false) : orderB l = false := by rw [orderB, h]; rfl
theorem order_t1 {l : List Int} (h : inB l.length 1 7 = true) : orderB l = strictB (sortF l) 0 (l.length - 1) := by rw [orderB, h]; rfl
set_option maxHeartbeats 1000000 in
theorem implOrderOk_any (v : Value) (l : List Int) (w : World) (h : RdL cInt 1 w v l) :
    Calls Try.prog 154 #[v] w fun e w' => e = .returned (.bool (orderB l)) ∧ Below w.heap.size w w' := by
  have h0 := h
  obtain ⟨A, c, rfl, h1, h2⟩ := h.form
  go_enter Try.func154, Try.ntmps154
  go_wp2_with (go_at_call 53; refine two (within_any _ _ _ _) (fun hc => ?_) (fun hc => ?_))
  · have hq := inB_iff.1 hc.out
    refine (sorted_any _ l _ h0 (by omega)).mono ?_
    rintro e w' ⟨v', rfl, hown, hb⟩
    go_wp2_with fail
    refine (isStrict_any _ (sortF l) _ _ _ (RdS.of_own hown)).mono ?_
    rintro e w'' ⟨rfl, hb'⟩
    go_wp2_with fail
    go_ret
    exact ⟨ret_bool (order_t1 hc.out).symm, bl_trans hb hb'⟩
  · go_ret
    exact ⟨ret_bool (order_f1 hc.out).symm, by (repeat' (first | exact Below.refl _ _ | (refine Below.setCell ?_ (by first | omega | (simp; omega) | (simp; done)) _) | (refine Below.alloc ?_ (by first | omega | (simp; omega) | (simp; done)) _) | (refine Below.drew ?_) | (refine below_drewN ?_ _) | (refine Below.trans ?_ (Below.mono (by assumption) (by first | omega | (simp; omega) | (simp; done))))))⟩

/-- what the reference asks at place k -/
def ordAt (l : List Int) (k : Nat) : Bool := inB (l.getD k 0) 0 (l.length - 1) && (List.range k).all (fun i => !(l.getD i 0 == l.getD k 0))
theorem ord_all (l : List Int) (h : (List.range l.length).all (ordAt l) = true) (hl : inB l.length 1 7 = true) : orderB l = true := by
  rw [orderB_iff]
  rw [List.all_eq_true] at h
  have hg : ∀ k (hk : k < l.length), l.getD k 0 = l[k] := fun k hk => by rw [List.getD_eq_getElem?_getD, List.getElem?_eq_getElem hk]; rfl
  have h' : ∀ k (hk : k < l.length), (0 ≤ l[k] ∧ l[k] ≤ (l.length : Int) - 1) ∧ ∀ i (hi : i < k), l[i]'(by omega) ≠ l[k] := by
    intro k hk
    have := h k (by simpa using hk)
    unfold ordAt at this
    rw [Bool.and_eq_true, hg k hk, inB_iff, List.all_eq_true] at this
    refine ⟨this.1, fun i hi => ?_⟩
    have := this.2 i (by simpa using hi)
    rw [hg i (by omega)] at this
    simpa using this
  refine ⟨by have := inB_iff.1 hl; omega, ?_, fun n hn => ?_⟩
  · rw [List.nodup_iff_pairwise_ne, List.pairwise_iff_getElem]
    intro i j hi hj hij
    exact (h' j hj).2 i hij
  · obtain ⟨k, hk, rfl⟩ := List.getElem_of_mem hn
    exact (h' k hk).1
theorem ord_f (l : List Int) {k : Nat} (hk : k < l.length) (h : ordAt l k = false) : orderB l = false := by
  rw [← Bool.not_eq_true, orderB_iff]
  rintro ⟨_, hn, hb⟩
  have hg : ∀ k (hk : k < l.length), l.getD k 0 = l[k] := fun k hk => by rw [List.getD_eq_getElem?_getD, List.getElem?_eq_getElem hk]; rfl
  have : ordAt l k = true := by
    unfold ordAt
    rw [Bool.and_eq_true, hg k hk]
    refine ⟨inB_iff.2 (hb _ (List.getElem_mem hk)), ?_⟩
    rw [List.all_eq_true]
    intro i hi
    have hik : i < k := by simpa using hi
    rw [hg i (by omega)]
    have := List.pairwise_iff_getElem.1 (List.nodup_iff_pairwise_ne.1 hn) i k (by omega) hk hik
    simpa using this
  rw [this] at h
  cases h
theorem ord_f2 {l : List Int} (h : inB l.length 1 7 = false) : orderB l = false := by rw [orderB, h]; rfl
end Go.Proofs.Ytjbhlbcjljdjmaa
