/- Contracts: marks that are texts. -/
import Derived.Laws.IdiomStrings
import Derived.Deep.RegionHeld3
import Derived.Test.YtdhmhgjjppeodaaGreatDoorBdC1x9
import Derived.Test.YtdhmhgjjppeodaaGreatDoorBdA1x8
namespace Go.Proofs.YtdhmhgjjppeodaaGreatDoor
open Go.RowKit
def mtL : Nat → Nat → ByteArray → ByteArray
 | 0, _, out => out
 | f + 1, n, out => if n = 0 then out else mtL f (n / 10) (⟨#[48 + UInt8.ofNat (n % 10)]⟩ ++ out)
def mkText (k : Int) : ByteArray := if k ≤ 0 then ⟨#[109, 48]⟩ else ⟨#[109]⟩ ++ mtL k.toNat k.toNat ByteArray.empty
theorem conv1 (n : Nat) (w : World) : (convert 22 9 (.slice (some ⟨w.heap.size, 0, none⟩) 1 1)).run Tryz.prog (w.alloc (Obj.cells #[.int .u8 (48 + (n : Int) % 10)] 5)) =
  .ok (.string ⟨#[48 + UInt8.ofNat (n % 10)]⟩) (w.alloc (Obj.cells #[.int .u8 (48 + (n : Int) % 10)] 5)) := by
 refine run_convert_bytes_back (P := Tryz.prog) _ _ _ 5 ⟨w.heap.size, 0, none⟩ 1 [48 + UInt8.ofNat (n % 10)] Tryz.underlying22 Tryz.underlying5 Tryz.underlying9 (fun j hj => ?_)
 obtain rfl : j = 0 := by simpa using hj
 have e : ((48 + UInt8.ofNat (n % 10)).toNat : Int) = 48 + (n : Int) % 10 := by
  rw [UInt8.toNat_add, UInt8.toNat_ofNat']
  show (((48 + n % 10 % 256) % 256 : Nat) : Int) = _
  omega
 show _ = some (Value.int .u8 ((48 + UInt8.ofNat (n % 10)).toNat : Int))
 rw [e]
 simp [go_sem]
set_option maxHeartbeats 1000000 in
set_option maxRecDepth 100000 in
theorem markText_any (k : Int) (w : World) (hk : k ≤ 1152921504606846976) (hk0 : 0 < k) :
  Calls Tryz.prog 59 #[.int .i64 k] w fun e w' => e = .returned (.string (mkText k)) ∧ Below w.heap.size w w' := by
 obtain ⟨n0, rfl⟩ := Int.eq_ofNat_of_zero_le (Int.le_of_lt hk0)
 go_enter Tryz.func59, Tryz.ntmps59
 go_wp2_with fail
 go_loopw [0, 3] (fun q o wr => ∃ (n f : Nat) (out : ByteArray), q = .int .i64 n ∧ o = .string out ∧ n ≤ f ∧ n + out.size ≤ n0 ∧ Hid (mtL f n out = mtL n0 n0 ByteArray.empty) ∧ Below w.heap.size w wr) (fun q _ _ => (intOf q).toNat)
 case atStart => exact ⟨n0, n0, ByteArray.empty, rfl, rfl, by omega, by simp, rfl, by (repeat' (first | exact Below.refl _ _ | refine qS ?_ _ | refine qA ?_ _ | refine qD ?_ | refine qN ?_ _ | refine qT ?_ (by assumption)))⟩
 case round =>
  obtain ⟨n, f, out, rfl, rfl, hnf, hsz, hr, hb⟩ := hrel
  have hz := hb.size
  by_cases hn : 0 < n
  ·have hcv := conv1 n wr
   go_wp2_with fail
   have hf : 0 < f := by omega
   obtain ⟨f', rfl⟩ : ∃ f', f = f' + 1 := ⟨f - 1, by omega⟩
   have hr' := hr.out
   rw [mtL, if_neg (by omega)] at hr'
   go_roundw
   case rel => exact ⟨n / 10, f', _, by go_num, rfl, by omega, by rw [ByteArray.size_append]; show n / 10 + (1 + out.size) ≤ n0; omega, hr', by (repeat' (first | exact Below.refl _ _ | refine qS ?_ _ | refine qA ?_ _ | refine qD ?_ | refine qN ?_ _ | refine qT ?_ (by assumption)))⟩
   case measure => simp [intOf]; omega
  ·go_wp2_with fail
   go_ret
   refine ⟨?_, by (repeat' (first | exact Below.refl _ _ | refine qS ?_ _ | refine qA ?_ _ | refine qD ?_ | refine qN ?_ _ | refine qT ?_ (by assumption)))⟩
   have hr' := hr.out
   obtain rfl : n = 0 := by omega
   have ho : mtL f 0 out = out := by cases f <;> simp [mtL]
   rw [ho] at hr'
   unfold mkText
   rw [if_neg (by omega), Int.toNat_natCast, ← hr']
   rfl
def mkString (k : Int) : List Value := [.string (mkText k)]
theorem mkString_len (k : Int) : (mkString k).length = 1 := rfl
set_option maxHeartbeats 1000000 in
set_option maxRecDepth 100000 in
theorem markStringS_any (v : Value) (n : Nat) (xs0 : List Value) (m : Int) (B : Nat) (w : World) (h : w.ownsRow B 9 1 v n xs0) (hm : 0 < m ∧ m ≤ 1152921504590069760) (hn : n ≤ 16777216) :
  Calls Tryz.prog 21 #[v, .int .i64 m] w fun e w' => e = .returned (.int .i64 (m + n)) ∧ w'.ownsRow B 9 1 v n (markC mkString 1 n m) ∧ w.grownBy w' v.ownBlock := by
 obtain ⟨A, c, rfl, h1, h2⟩ := (RdS.of_own h).form
 simp only [maxLen] at h2
 go_enter Tryz.func21, Tryz.ntmps21
 go_wp2_with fail
 go_loopw [1, 5] (fun q i wr => ∃ (k : Nat) (xs : List Value), k ≤ n ∧ i = .int .i64 k ∧ q = .int .i64 (m + k) ∧ wr.ownsRow B 9 1 (.slice A n c) n xs ∧ Hid (xs.take k = markC mkString 1 k m) ∧ Hid (w.grownBy wr (Value.slice A n c).ownBlock)) (fun _ i _ => n - (intOf i).toNat)
 case atStart => exact ⟨0, _, Nat.zero_le _, rfl, by simp, h, by simp [Hid, markC], World.grownBy.refl _ _⟩
 case round =>
  obtain ⟨k, xs, hk, rfl, rfl, hown, ht, hgr⟩ := hrel
  by_cases hlt : k < n
  ·obtain ⟨g, cap, hv⟩ := own_form hown (by omega)
   injection hv with hv1 hv2 hv3
   subst hv1 hv3
   have hxl := hown.1
   obtain ⟨u0, c0⟩ : ∃ u, wr.cell? ⟨g, k, none⟩ = some u := ⟨_, (hown.cellAt k (by omega)).trans (List.getElem?_eq_getElem (by omega))⟩
   have f0 := hown.frozenAt k
   have Hxl := Lib.hid hxl
   clear hxl
   go_wp2_with fail
   refine (markText_any _ _ (by omega) (by omega)).mono ?_
   rintro e w' ⟨rfl, hb'⟩
   have d0 := carry hb' c0
   have g0 := carryF hb' c0 f0
   have ho1 := (own_below hown hb').stored k (.string (mkText (m + k)))
   clear c0 f0
   go_wp2_with fail
   go_roundw
   case rel =>
    refine ⟨k + 1, _, by omega, by go_num, int_eq (by omega), ho1.1, ?_, ?_⟩
    ·show _ = _
     rw [markC_succ, Int.mul_one]
     exact size_set1 _ ht.out (by rw [Hxl.out]; omega)
    ·exact grown_setCell (p := ⟨g, k, none⟩) (grown_trans hgr.out (grown_below hb' _)) rfl _
   case measure => simp [intOf]; omega
  ·go_wp2_with fail
   go_ret
   have hkn : k = n := by omega
   subst hkn
   refine ⟨rfl, ?_, hgr.out⟩
   have e := ht.out
   rw [List.take_of_length_le (by rw [hown.1]; omega)] at e
   rw [← e]; exact hown
set_option maxHeartbeats 1000000 in
set_option maxRecDepth 100000 in
theorem heldStringS_any (v : Value) (n : Nat) (m : Int) (w : World) (h : RdS w 1 v n (markC mkString 1 n m)) (hm : 0 < m ∧ m ≤ 1152921504590069760) (hn : n ≤ 16777216) :
  Calls Tryz.prog 22 #[v, .int .i64 m] w fun e w' => e = .returned (.int .i64 (m + n)) ∧ Below w.heap.size w w' := by
 obtain ⟨A, c, rfl, h1, h2⟩ := h.form
 simp only [maxLen] at h2
 go_enter Tryz.func22, Tryz.ntmps22
 go_wp2_with fail
 go_loopw [1, 5] (fun q i wr => ∃ k : Nat, k ≤ n ∧ i = .int .i64 k ∧ q = .int .i64 (m + k) ∧ Below w.heap.size w wr) (fun _ i _ => n - (intOf i).toNat)
 case atStart => exact ⟨0, Nat.zero_le _, rfl, by simp, by (repeat' (first | exact Below.refl _ _ | refine qS ?_ _ | refine qA ?_ _ | refine qD ?_ | refine qN ?_ _ | refine qT ?_ (by assumption)))⟩
 case round =>
  obtain ⟨k, hk, rfl, rfl, hb⟩ := hrel
  have hz := hb.size
  by_cases hlt : k < n
  ·obtain ⟨g, off, rfl, hg, hc⟩ := (h.below hb).at_ (by omega) (by omega)
   have k0 := hc (k * 1 + 0) (.string (mkText (m + k * 1))) (markC_get mkString_len k n m hlt 0 (by omega) _ rfl)
   simp only [Nat.mul_one, Nat.add_zero, Int.mul_one] at k0
   clear hc
   go_wp2_with fail
   go_region_held3 (fun w' => w'.cell? ⟨g, off + k, none⟩ = some (.string (mkText (m + k))) ∧ Below w.heap.size w w') (first | exact ⟨k0, hb⟩ | exact ⟨k0, hb.drew⟩ | exact ⟨carry hb' k0, hb.drew.trans (hb'.mono hz)⟩)
    (first | (go_at_call 59; refine (markText_any _ _ (by omega) (by omega)).mono ?_; rintro e w' ⟨rfl, hb'⟩))
   go_wp2_with fail
   go_roundw
   case rel => exact ⟨k + 1, by omega, by go_num, int_eq (by omega), by first | assumption | exact hb.drew.trans (Below.mono (by assumption) hz)⟩
   case measure => simp [intOf]; omega
  ·go_wp2_with fail
   go_ret
   have hkn : k = n := by omega
   subst hkn
   exact ⟨rfl, by (repeat' (first | exact Below.refl _ _ | refine qS ?_ _ | refine qA ?_ _ | refine qD ?_ | refine qN ?_ _ | refine qT ?_ (by assumption)))⟩
end Go.Proofs.YtdhmhgjjppeodaaGreatDoor
