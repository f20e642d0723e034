/- Several texts in one: The drawing of inputs: the cursor, a byte, a number below n. What is said of a drawn number is its range alone. Contracts of the laws' small helpers: big, at, btoi. The drawing of words. -/
import Derived.BigQuiet
import Derived.Deep.QuietTactic
import Derived.Test.YteidpejjjphecaaGreatDoorBdA1x10
import Derived.Test.YteidpejjjphecaaGreatDoorBdC1x9
namespace Go.Proofs.YteidpejjjphecaaGreatDoor
open Go.RowKit
def cU8 (n : Int) : List Value := [.int .u8 n]
theorem cU8_len (a : Int) : (cU8 a).length = 1 := rfl
theorem and255 (n : Int) : bits .and .i64 n 255 = n % 256 := by
 have h127 : (BitVec.ofInt 64 255).toNat = 2 ^ 8 - 1 := by decide
 have key : (BitVec.ofInt 64 n &&& BitVec.ofInt 64 255).toNat = (n % ((2 ^ 64 : Nat) : Int)).toNat % 2 ^ 8 := by
  rw [BitVec.toNat_and, BitVec.toNat_ofInt, h127, Nat.and_two_pow_sub_one_eq_mod]
 show IntKind.i64.wrap ((BitVec.ofInt 64 n &&& BitVec.ofInt 64 255).toNat : Nat) = n % 256
 rw [key, IntKind.wrap_i64]
 omega
structure Cur (w0 w : World) (g : Nat) (A : Option Addr) (c : Nat) (bs : List Int) : Prop where
 code : RdL cU8 1 w0 (.slice A bs.length c) bs
 bytes : ∀ x ∈ bs, 0 ≤ x ∧ x ≤ 255
 len : bs.length ≤ 9223372036854775807
 base : w0.heap.size ≤ g
 below : Below w0.heap.size w0 w
 cells : ∃ i h : Int, w.heap[g]? = some (.cells #[.slice A bs.length c, .int .i64 i, .int .i64 h] 60 (0, 0)) ∧ 0 ≤ i ∧ i ≤ bs.length
section
variable {w0 w w' : World} {g : Nat} {A : Option Addr} {c : Nat} {bs : List Int}
theorem Cur.lt (h : Cur w0 w g A c bs) : g < w.heap.size := by
 obtain ⟨i, x, hg, _⟩ := h.cells
 exact (Array.getElem?_eq_some_iff.1 hg).1
theorem Cur.chg {S : List Nat} (h : Cur w0 w g A c bs) (hc : Chg S w w') (hn : g ∉ S) (hS : ∀ b ∈ S, w0.heap.size ≤ b) : Cur w0 w' g A c bs := by
 obtain ⟨i, x, hg, hi⟩ := h.cells
 exact ⟨h.code, h.bytes, h.len, h.base, Below.chg h.below hc h.below.size hS, i, x, (hc.block g h.lt hn).trans hg, hi⟩
theorem Cur.keep (h : Cur w0 w g A c bs) (hb : Below w.heap.size w w') : Cur w0 w' g A c bs :=
 h.chg (Chg.of_below hb []) (by simp) (by simp)
end
def DrawPost (n : Int) (w0 w : World) (g : Nat) (A : Option Addr) (c : Nat) (bs : List Int) (e : Ending) (w' : World) : Prop :=
 ∃ r : Int, e = .returned (.int .i64 r) ∧ (0 ≤ r ∧ r < n) ∧ Cur w0 w' g A c bs ∧ Chg [g] w w'
theorem chg_drewN {w w' : World} {S : List Nat} (h : Chg S w w') (n : Nat) : Chg S w (w'.drewN n) := ⟨h.os, h.tape, h.output, h.size, h.block⟩
set_option maxHeartbeats 2000000 in
set_option maxRecDepth 100000 in
theorem l01Byte_any (w0 w : World) (g : Nat) (A : Option Addr) (c : Nat) (bs : List Int) (hcur : Cur w0 w g A c bs) :
  Calls Tryz.prog 27 #[.pointer (some ⟨g, 0, none⟩)] w (DrawPost 256 w0 w g A c bs) := by
 obtain ⟨i, h, hg, hi0, hi1⟩ := hcur.cells
 have k0 : w.cell? ⟨g, 0, none⟩ = some (.slice A bs.length c) := by rw [cell_of_row w g 0 _ _ (0, 0) hg]; rfl
 have k1 : w.cell? ⟨g, 1, none⟩ = some (.int .i64 i) := by rw [cell_of_row w g 1 _ _ (0, 0) hg]; rfl
 have k2 : w.cell? ⟨g, 2, none⟩ = some (.int .i64 h) := by rw [cell_of_row w g 2 _ _ (0, 0) hg]; rfl
 have f1 : w.frozen? ⟨g, 1, none⟩ = false := frozen_of_row w g 1 _ _ hg
 have f2 : w.frozen? ⟨g, 2, none⟩ = false := frozen_of_row w g 2 _ _ hg
 have Hg := Lib.hid hg
 clear hg
 have hbelow := hcur.below
 have hbase := hcur.base
 have hlen := hcur.len
 have ha := and255
 go_enter Tryz.func27, Tryz.ntmps27
 go_wp2_with fail
 have hx : ∃ h1, wrap64 (wrap64 (h * 6364136223846793005) + 1442695040888963407) = h1 := ⟨_, rfl⟩
 obtain ⟨h1, hx⟩ := hx
 rw [hx]
 clear hx
 have hg1 := heap_setCell_same w g 2 _ _ (.int .i64 h1) Hg.out
 have hc1 : Chg [g] w (w.setCell ⟨g, 2, none⟩ (.int .i64 h1)) := chg_set (Chg.refl _ _) (by simp)
 have hb1 : Below w0.heap.size w0 (w.setCell ⟨g, 2, none⟩ (.int .i64 h1)) := hbelow.setCell hbase _
 clear k0 k1 k2 f1 f2 Hg hbelow
 generalize w.setCell ⟨g, 2, none⟩ (.int .i64 h1) = W at *
 have k0 : W.cell? ⟨g, 0, none⟩ = some (.slice A bs.length c) := by rw [cell_of_row W g 0 _ _ (0, 0) hg1]; rfl
 have k1 : W.cell? ⟨g, 1, none⟩ = some (.int .i64 i) := by rw [cell_of_row W g 1 _ _ (0, 0) hg1]; rfl
 have k2 : W.cell? ⟨g, 2, none⟩ = some (.int .i64 h1) := by rw [cell_of_row W g 2 _ _ (0, 0) hg1]; rfl
 have f1 : W.frozen? ⟨g, 1, none⟩ = false := frozen_of_row W g 1 _ _ hg1
 have Hg1 := Lib.hid hg1
 clear hg1
 by_cases hlt : i < bs.length
 ·obtain ⟨ii, rfl⟩ := Int.eq_ofNat_of_zero_le hi0
  have hii : ii < bs.length := by omega
  obtain ⟨gc, off, rfl, hgc, hcell⟩ := (hcur.code.below hb1).cell cU8_len (by omega) hii
  have kb := hcell 0 _ rfl
  simp only [Nat.add_zero, Nat.mul_one] at kb
  clear hcell
  have hby := hcur.bytes _ (List.getElem_mem hii)
  generalize bs[ii] = x at *
  go_quiet (fail)
  go_wp2_with fail
  go_quiet (fail)
  go_wp2_with fail
  go_quiet (fail)
  go_wp2_with fail
  go_ret
  exact ⟨_, rfl, ⟨by omega, by omega⟩, ⟨hcur.code, hcur.bytes, hlen, hbase, (below_drewN hb1 _).setCell hbase _, _, h1, heap_setCell_same (W.drewN _) g 1 _ _ _ Hg1.out, by omega, by omega⟩, chg_set (chg_drewN hc1 _) (by simp)⟩
 ·go_quiet (fail)
  go_wp2_with fail
  go_quiet (fail)
  go_wp2_with fail
  go_ret
  exact ⟨_, rfl, ⟨by omega, by omega⟩, ⟨hcur.code, hcur.bytes, hlen, hbase, below_drewN (below_drewN hb1 _) _, i, h1, Hg1.out, hi0, hi1⟩, chg_drewN (chg_drewN hc1 _) _⟩
set_option maxHeartbeats 2000000 in
set_option maxRecDepth 100000 in
theorem l01Below_any (n : Int) (w0 w : World) (g : Nat) (A : Option Addr) (c : Nat) (bs : List Int) (hcur : Cur w0 w g A c bs) (hn0 : 0 < n) (hn : n ≤ 256) :
  Calls Tryz.prog 14 #[.pointer (some ⟨g, 0, none⟩), .int .i64 n] w (DrawPost n w0 w g A c bs) := by
 go_enter Tryz.func14, Tryz.ntmps14
 go_wp2_with fail
 refine (l01Byte_any w0 w g A c bs hcur).mono ?_
 rintro e w' ⟨r, rfl, ⟨hr0, hr1⟩, hc, hch⟩
 go_wp2_with fail
 go_ret
 exact ⟨_, rfl, ⟨Int.emod_nonneg _ (by omega), Int.emod_lt_of_pos _ hn0⟩, hc, hch⟩
theorem and30 (n : Int) : bits .and .i64 n 1073741823 = n % 1073741824 := by
 have h127 : (BitVec.ofInt 64 1073741823).toNat = 2 ^ 30 - 1 := by decide
 have key : (BitVec.ofInt 64 n &&& BitVec.ofInt 64 1073741823).toNat = (n % ((2 ^ 64 : Nat) : Int)).toNat % 2 ^ 30 := by
  rw [BitVec.toNat_and, BitVec.toNat_ofInt, h127, Nat.and_two_pow_sub_one_eq_mod]
 show IntKind.i64.wrap ((BitVec.ofInt 64 n &&& BitVec.ofInt 64 1073741823).toNat : Nat) = n % 1073741824
 rw [key, IntKind.wrap_i64]
 omega
def NewPost (A : Option Addr) (c : Nat) (bs : List Int) (w : World) (e : Ending) (w' : World) : Prop := ∃ g, e = .returned (.pointer (some ⟨g, 0, none⟩)) ∧ Cur w w' g A c bs
set_option maxHeartbeats 2000000 in
set_option maxRecDepth 100000 in
theorem l01New_any (A : Option Addr) (c : Nat) (bs : List Int) (w : World) (h : RdL cU8 1 w (.slice A bs.length c) bs) (hby : ∀ x ∈ bs, 0 ≤ x ∧ x ≤ 255) (hlen : bs.length ≤ 1048576) :
  Calls Tryz.prog 11 #[.slice A bs.length c] w (NewPost A c bs w) := by
 have ha := and30
 have Hby := Lib.hid hby
 clear hby
 go_enter Tryz.func11, Tryz.ntmps11
 go_wp2_with fail
 go_loop [3, 4] (fun q i => ∃ (k : Nat) (x : Int), k ≤ bs.length ∧ i = .int .i64 k ∧ q = .int .i64 x ∧ 0 ≤ x ∧ x ≤ 1073741824) (fun _ i => bs.length - (intOf i).toNat)
 case atStart => exact ⟨0, _, Nat.zero_le _, rfl, rfl, by omega, by omega⟩
 case round =>
  obtain ⟨k, x, hk, rfl, rfl, hx0, hx1⟩ := hrel
  by_cases hlt : k < bs.length
  ·have hcd := h
   obtain ⟨gc, off, rfl, hgc, hcell⟩ := hcd.cell cU8_len (by omega) hlt
   have kb := hcell 0 _ rfl
   simp only [Nat.add_zero, Nat.mul_one] at kb
   clear hcell
   have hb := Hby.out _ (List.getElem_mem hlt)
   by_cases h4 : k < 4000
   ·go_wp2_with fail
    go_round
    case rel => exact ⟨k + 1, _, by omega, by go_num, rfl, by omega, by omega⟩
    case measure => simp [intOf]; omega
   ·go_wp2_with fail
    go_ret
    exact ⟨_, rfl, h, Hby.out, by omega, Nat.le_refl _, by (repeat' (first | exact Below.refl _ _ | refine qS ?_ _ | refine qA ?_ _ | refine qD ?_ | refine qN ?_ _ | refine qT ?_ (by assumption))), 0, x, heap_alloc_new w _, by omega, by omega⟩
  ·go_wp2_with fail
   go_ret
   exact ⟨_, rfl, h, Hby.out, by omega, Nat.le_refl _, by (repeat' (first | exact Below.refl _ _ | refine qS ?_ _ | refine qA ?_ _ | refine qD ?_ | refine qN ?_ _ | refine qT ?_ (by assumption))), 0, x, heap_alloc_new w _, by omega, by omega⟩
open Go.RowKit
set_option maxHeartbeats 1000000 in
theorem big_any (A : Option Addr) (n : Nat) (c : Nat) (w : World) :
  Calls Tryz.prog 4 #[.slice A n c] w fun e w' => e = .returned (.bool (decide (1048576 < (n : Int)))) ∧ Below w.heap.size w w' := by
 go_enter Tryz.func4, Tryz.ntmps4
 go_wp2_with fail
 go_ret
 exact ⟨rfl, by (repeat' (first | exact Below.refl _ _ | refine qS ?_ _ | refine qA ?_ _ | refine qD ?_ | refine qN ?_ _ | refine qT ?_ (by assumption)))⟩
open Go.RowKit
theorem Chg.alloc {S : List Nat} {w w' : World} (h : Chg S w w') (o : Obj) : Chg S w (w'.alloc o) := h.trans (Chg.of_below ((Below.refl _ _).alloc (Nat.le_refl _) o) S)
theorem chg_of_own {w w' wx : World} {S : List Nat} {e : TypeId} {size n : Nat} {v : Value} {xs : List Value} (hc : Chg S w wx) (hown : wx.ownsRow w.heap.size e size v n xs) (hg : wx.grownBy w' v.ownBlock) : Chg S w w' :=
 ⟨hg.os.trans hc.os, hg.tape.trans hc.tape, hg.output.trans hc.output, Nat.le_trans hc.size hg.size, fun k hk hn => (hg.block k (Nat.lt_of_lt_of_le hk hc.size) (fun e => by have := (hown.lt k e.symm).1; omega)).trans (hc.block k hk hn)⟩
theorem cur_own {w0 wx w' : World} {g B : Nat} {A : Option Addr} {c : Nat} {bs : List Int} {e : TypeId} {size n : Nat} {v : Value} {xs : List Value} (hc : Cur w0 wx g A c bs) (hown : wx.ownsRow B e size v n xs) (hg : wx.grownBy w' v.ownBlock) (hgB : g < B) (hw : w0.heap.size ≤ B) : Cur w0 w' g A c bs :=
 hc.chg (Chg.of_grown hg) (fun hm => by have := (hown.lt g (by simpa using hm)).1; omega) (fun b hb => by have := (hown.lt b (by simpa using hb)).1; omega)
end Go.Proofs.YteidpejjjphecaaGreatDoor
