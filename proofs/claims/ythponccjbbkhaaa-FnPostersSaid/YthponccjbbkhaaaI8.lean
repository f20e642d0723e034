/- Slices of slices of ints: the marks. -/
import Derived.Test.YthponccjbbkhaaaI7
namespace Go.Proofs.Ythponccjbbkhaaa
open Go.RowKit

theorem blocks_take_sub (vs : List Value) (k : Nat) : ∀ b ∈ blocksOf (vs.take k), b ∈ blocksOf vs := by
  intro b hb
  rw [← List.take_append_drop k vs, blocksOf, List.flatMap_append]
  exact List.mem_append_left _ hb
theorem blocks_apart {vs : List Value} (h : (blocksOf vs).Nodup) {k : Nat} {v : Value} (hv : vs[k]? = some v) : ∀ b ∈ v.ownBlock.toList, b ∉ blocksOf (vs.take k) := by
  intro b hb hm
  have hk := (List.getElem?_eq_some_iff.1 hv).1
  have e : vs = vs.take k ++ v :: vs.drop (k + 1) := by
    have := List.getElem_cons_drop hk
    rw [(List.getElem?_eq_some_iff.1 hv).2] at this
    rw [this, List.take_append_drop]
  rw [e, blocksOf, List.flatMap_append] at h
  have := (List.nodup_append.1 h).2.2 b hm b (by rw [List.flatMap_cons]; exact List.mem_append_left _ hb)
  exact this rfl
theorem blocks_take_succ {vs : List Value} {k : Nat} {v : Value} (hv : vs[k]? = some v) : blocksOf (vs.take (k + 1)) = blocksOf (vs.take k) ++ v.ownBlock.toList := by
  rw [List.take_add_one, hv]
  exact blocks_snoc _ _
/-- how many numbers the first k rows hold -/
def sumTo (ll : List (List Int)) (k : Nat) : Nat := ((ll.take k).map List.length).sum
theorem sumTo_end (ll : List (List Int)) : sumTo ll ll.length = (ll.map List.length).sum := by unfold sumTo; rw [List.take_length]
set_option maxHeartbeats 1000000 in
set_option maxRecDepth 100000 in
theorem markIntSS_any (v : Value) (ll : List (List Int)) (m : Int) (w : World) (S : List Nat) (h : OwRows 24 3 w S v ll) (hf : S.Nodup) (hm : 0 ≤ m ∧ m ≤ 1048576) (hl : rowsTot ll ≤ 1048576) :
    Calls Try.prog 35 #[v, .int .i64 m] w fun e w' => e = .returned (.int .i64 (m + (ll.map List.length).sum)) ∧ Chg S w w' := by
  have hrd := h.rd
  obtain ⟨vs, hvl, hown, hrows, rfl⟩ := h
  obtain ⟨A, c, rfl, h1, h2⟩ := hrd.form
  have hnd := (List.nodup_append.1 hf).2.1
  have hap := (List.nodup_append.1 hf).2.2
  have Hap := Lib.hid hap
  have Hrows := Lib.hid hrows
  rw [hvl] at hown
  have Hvl := Lib.hid hvl
  clear hap hrows hrd
  go_enter Try.func35, Try.ntmps35
  go_wp2_with fail
  have hlle : ll.length ≤ 1048576 := by unfold rowsTot at hl; omega
  go_loopw [1, 5] (fun q i wr => ∃ k : Nat, k ≤ ll.length ∧ i = .int .i64 k ∧ q = .int .i64 (m + sumTo ll k) ∧ Hid (Chg (blocksOf (vs.take k)) w wr)) (fun _ i _ => ll.length - (intOf i).toNat)
  case atStart => exact ⟨0, Nat.zero_le _, rfl, by simp [sumTo], Chg.refl _ _⟩
  case round =>
    obtain ⟨k, hk, rfl, rfl, hch⟩ := hrel
    by_cases hlt : k < ll.length
    · have hkv : k < vs.length := by have := Hvl.out; omega
      obtain ⟨g, cap, hv⟩ := own_form hown (by omega)
      injection hv with hv1 hv2 hv3
      subst hv1 hv3
      have hch' : Chg (blocksOf vs) w wr := hch.out.mono (blocks_take_sub vs k)
      have hown' : wr.ownsRow 0 24 1 (.slice (some ⟨g, 0, none⟩) ll.length c) ll.length vs := own_chg hown hch' (fun b hb hb' => Hap.out b hb b hb' rfl)
      have k0 : wr.cell? ⟨g, k, none⟩ = some vs[k] := (hown'.cellAt k (by omega)).trans (List.getElem?_eq_getElem hkv)
      have hrk := Hrows.out k vs[k] ll[k] (List.getElem?_eq_getElem hkv) (List.getElem?_eq_getElem hlt)
      have hrk' := own_chg hrk hch.out (blocks_apart hnd (List.getElem?_eq_getElem hkv))
      have Hst : Hid (sumTo ll (k + 1) = sumTo ll k + ll[k].length) := sum_take_succ List.length ll hlt
      have hle : sumTo ll k + ll[k].length ≤ 1048576 := by
        have h3 : sumTo ll (k + 1) ≤ (ll.map List.length).sum := by
          unfold sumTo
          conv => rhs; rw [← List.take_append_drop (k + 1) ll, List.map_append, List.sum_append_nat]
          omega
        have := Hst.out
        unfold rowsTot at hl
        omega
      have Hbt := Lib.hid (blocks_take_succ (List.getElem?_eq_getElem hkv))
      clear hown'
      go_wp2_with fail
      refine (markIntS_any vs[k] ll[k].length (ll[k].flatMap cInt) _ 0 _ hrk' (by omega) (by omega)).mono ?_
      rintro e w' ⟨rfl, _, hgr⟩
      have hch2 := Chg.trans (Chg.mono hch.out (T := blocksOf (vs.take (k + 1))) (fun b hb => by rw [Hbt.out]; exact List.mem_append_left _ hb)) (Chg.mono (Chg.of_grown hgr) (fun b hb => by rw [Hbt.out]; exact List.mem_append_right _ hb))
      go_wp2_with fail
      go_roundw
      case rel => exact ⟨k + 1, by omega, by go_num, int_eq (by rw [Hst.out]; omega), hch2⟩
      case measure => simp [intOf]; omega
    · obtain rfl : k = ll.length := by omega
      have hch' : Chg (blocksOf vs) w wr := hch.out.mono (blocks_take_sub vs _)
      rw [sumTo_end]
      go_wp2_with fail
      go_ret
      exact ⟨rfl, hch'.mono (fun b hb => List.mem_append_right _ hb)⟩
end Go.Proofs.Ythponccjbbkhaaa
