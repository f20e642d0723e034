/- Contracts: marks that are texts. -/
import Derived.Laws.IdiomStrings
import Derived.Deep.RegionHeld3
import Derived.Test.YtkbacoadejglkaaGreatDoorBdC1x9
namespace Go.Proofs.YtkbacoadejglkaaGreatDoor
set_option maxHeartbeats 16000000
set_option maxRecDepth 100000
open Go.RowKit
def mtL : Nat -> Nat -> ByteArray -> ByteArray
 | 0, _, out => out
 | f + 1, n, out => if n = 0 then out else mtL f (n / 10) (⟨#[48 + UInt8.ofNat (n % 10)]⟩ ++ out)
def zl0 (k : Int) : ByteArray := if k <= 0 then ⟨#[109, 48]⟩ else ⟨#[109]⟩ ++ mtL k.toNat k.toNat ByteArray.empty
theorem z0h (n : Nat) (w : World) : (convert 57 9 (.slice (some ⟨w.heap.size, 0, none⟩) 1 1)).run Tryz.prog (w.alloc (Obj.cells #[.int .u8 (48 + (n : Int) % 10)] 5)) =
  .ok (.string ⟨#[48 + UInt8.ofNat (n % 10)]⟩) (w.alloc (Obj.cells #[.int .u8 (48 + (n : Int) % 10)] 5)) := by
 refine run_convert_bytes_back (P := Tryz.prog) _ _ _ 5 ⟨w.heap.size, 0, none⟩ 1 [48 + UInt8.ofNat (n % 10)] Tryz.underlying57 Tryz.underlying5 Tryz.underlying9 (fun j hj => ?_)
 obtain rfl : j = 0 := by simpa using hj
 have e : ((48 + UInt8.ofNat (n % 10)).toNat : Int) = 48 + (n : Int) % 10 := by
  rw [UInt8.toNat_add, UInt8.toNat_ofNat']
  show (((48 + n % 10 % 256) % 256 : Nat) : Int) = _
  omega
 show _ = some (Value.int .u8 ((48 + UInt8.ofNat (n % 10)).toNat : Int))
 rw [e]
 simp [go_sem]
theorem zji (k : Int) (w : World) (hk : k <= 1152921504606846976) (hk0 : 0 < k) :
  Calls Tryz.prog 22 #[.int .i64 k] w fun e w' => e = .returned (.string (zl0 k)) /\ Below w.heap.size w w' := by
 obtain ⟨n0, rfl⟩ := Int.eq_ofNat_of_zero_le (Int.le_of_lt hk0)
 go_enter Tryz.func22, Tryz.ntmps22
 go_wp2_with fail
 go_loopw [0, 3] (fun q o wr => ∃ (n f : Nat) (out : ByteArray), q = .int .i64 n /\ o = .string out /\ n <= f /\ n + out.size <= n0 /\ Hid (mtL f n out = mtL n0 n0 ByteArray.empty) /\ Below w.heap.size w wr) (fun q _ _ => (intOf q).toNat)
 case atStart => exact ⟨n0, n0, ByteArray.empty, rfl, rfl, by omega, by simp, rfl, bL⟩
 case round =>
  obtain ⟨n, f, out, rfl, rfl, hnf, hsz, hr, hb⟩ := hrel; have hz := hb.size
  by_cases hn : 0 < n
  ·have hcv := z0h n wr
   go_wp2_with fail; have hf : 0 < f := by omega
   obtain ⟨f', rfl⟩ : ∃ f', f = f' + 1 := ⟨f - 1, by omega⟩
   have hr' := hr.out; rw [mtL, if_neg (by omega)] at hr'
   go_roundw
   case rel => exact ⟨n / 10, f', _, by go_num, rfl, by omega, by rw [ByteArray.size_append]; show n / 10 + (1 + out.size) <= n0; omega, hr', bL⟩
   case measure => simp [intOf]; omega
  ·go_wp2_with fail
   go_ret
   refine ⟨?_, bL⟩
   have hr' := hr.out; obtain rfl : n = 0 := by omega
   have ho : mtL f 0 out = out := by cases f <;> simp [mtL]
   rw [ho] at hr'; unfold zl0; rw [if_neg (by omega), Int.toNat_natCast, <- hr']
   rfl
def zkc (k : Int) : List Value := [.string (zl0 k)]
theorem zoh (k : Int) : (zkc k).length = 1 := rfl
theorem zkl (v : Value) (n : Nat) (xs0 : List Value) (m : Int) (B : Nat) (w : World) (h : w.ownsRow B 9 1 v n xs0) (hm : 0 < m /\ m <= 1152921504590069760) (hn : n <= 16777216) :
  Calls Tryz.prog 7 #[v, .int .i64 m] w fun e w' => e = .returned (.int .i64 (m + n)) /\ w'.ownsRow B 9 1 v n (zjt zkc 1 n m) /\ w.grownBy w' v.ownBlock := by
 obtain ⟨A, c, rfl, h1, h2⟩ := (RdS.of_own h).form
 simp only [maxLen] at h2
 go_enter Tryz.func7, Tryz.ntmps7
 go_wp2_with fail
 go_loopw [1, 5] (fun q i wr => ∃ (k : Nat) (xs : List Value), k <= n /\ i = .int .i64 k /\ q = .int .i64 (m + k) /\ wr.ownsRow B 9 1 (.slice A n c) n xs /\ Hid (xs.take k = zjt zkc 1 k m) /\ Hid (w.grownBy wr (Value.slice A n c).ownBlock)) (fun _ i _ => n - (intOf i).toNat)
 case atStart => exact ⟨0, _, Nat.zero_le _, rfl, by simp, h, by simp [Hid, zjt], World.grownBy.refl _ _⟩
 case round =>
  obtain ⟨k, xs, hk, rfl, rfl, hown, ht, hgr⟩ := hrel
  by_cases hlt : k < n
  ·obtain ⟨g, cap, hv⟩ := zce hown (by omega)
   injection hv with hv1 hv2 hv3
   subst hv1 hv3; have hxl := hown.1; obtain ⟨u0, c0⟩ : ∃ u, wr.cell? ⟨g, k, none⟩ = some u := ⟨_, (hown.cellAt k (by omega)).trans (List.getElem?_eq_getElem (by omega))⟩
   have f0 := hown.frozenAt k; have Hxl := Lib.hid hxl; clear hxl; go_wp2_with fail; refine (zji _ _ (by omega) (by omega)).mono ?_
   rintro e w' ⟨rfl, hb'⟩; have d0 := za5 hb' c0; have g0 := zcw hb' c0 f0; have ho1 := (zac hown hb').stored k (.string (zl0 (m + k))); clear c0 f0; go_wp2_with fail; go_roundw
   case rel =>
    refine ⟨k + 1, _, by omega, by go_num, zcn (by omega), ho1.1, ?_, ?_⟩
    ·show _ = _
     rw [zst, Int.mul_one]; exact zuz _ ht.out (by rw [Hxl.out]; omega)
    ·exact zni (p := ⟨g, k, none⟩) (zp5 hgr.out (zql hb' _)) rfl _
   case measure => simp [intOf]; omega
  ·go_wp2_with fail
   go_ret
   have hkn : k = n := by omega
   subst hkn; refine ⟨rfl, ?_, hgr.out⟩; have e := ht.out; rw [List.take_of_length_le (by rw [hown.1]; omega)] at e
   rw [<- e]; exact hown
theorem zf9 (v : Value) (n : Nat) (m : Int) (w : World) (h : RdS w 1 v n (zjt zkc 1 n m)) (hm : 0 < m /\ m <= 1152921504590069760) (hn : n <= 16777216) :
  Calls Tryz.prog 8 #[v, .int .i64 m] w fun e w' => e = .returned (.int .i64 (m + n)) /\ Below w.heap.size w w' := by
 obtain ⟨A, c, rfl, h1, h2⟩ := h.form
 simp only [maxLen] at h2
 go_enter Tryz.func8, Tryz.ntmps8
 go_wp2_with fail
 go_loopw [1, 5] (fun q i wr => ∃ k : Nat, k <= n /\ i = .int .i64 k /\ q = .int .i64 (m + k) /\ Below w.heap.size w wr) (fun _ i _ => n - (intOf i).toNat)
 case atStart => exact ⟨0, Nat.zero_le _, rfl, by simp, bL⟩
 case round =>
  obtain ⟨k, hk, rfl, rfl, hb⟩ := hrel; have hz := hb.size
  by_cases hlt : k < n
  ·obtain ⟨g, off, rfl, hg, hc⟩ := (h.below hb).at_ (by omega) (by omega)
   have k0 := hc (k * 1 + 0) (.string (zl0 (m + k * 1))) (zt7 zoh k n m hlt 0 (by omega) _ rfl)
   simp only [Nat.mul_one, Nat.add_zero, Int.mul_one] at k0
   clear hc; go_wp2_with fail
   go_region_held3 (fun w' => w'.cell? ⟨g, off + k, none⟩ = some (.string (zl0 (m + k))) /\ Below w.heap.size w w') (first | exact ⟨k0, hb⟩ | exact ⟨k0, hb.drew⟩ | exact ⟨za5 hb' k0, hb.drew.trans (hb'.mono hz)⟩)
    (first | (go_at_call 22; refine (zji _ _ (by omega) (by omega)).mono ?_; rintro e w' ⟨rfl, hb'⟩))
   go_wp2_with fail; go_roundw
   case rel => exact ⟨k + 1, by omega, by go_num, zcn (by omega), by first | assumption | exact hb.drew.trans (Below.mono (by assumption) hz)⟩
   case measure => simp [intOf]; omega
  ·go_wp2_with fail
   go_ret
   have hkn : k = n := by omega
   subst hkn; exact ⟨rfl, bL⟩
end Go.Proofs.YtkbacoadejglkaaGreatDoor
