/- Numbers as texts, in plain words. No program in sight. -/
import Derived.Lib.ItoaLen
import Derived.Lib.AtoiTie
import Derived.Test.YtdhmhgjjppeodaaGreatDoorBdA1x8
namespace Go.Proofs.YtdhmhgjjppeodaaGreatDoor
open Go.RowKit
def spc1 : ByteArray := ⟨#[32]⟩
def numS (n : Int) : ByteArray := ⟨(Lib.itoa n).toArray⟩
theorem ba_ext {s t : ByteArray} (h : s.data.toList = t.data.toList) : s = t := by
 cases s; cases t
 congr 1
 exact Array.toList_inj.1 h
theorem numS_list (n : Int) : (numS n).data.toList = Lib.itoa n := by simp [numS]
theorem itoa_nat (n : Nat) : Lib.itoa (n : Int) = Lib.decDigits n := by unfold Lib.itoa; rw [if_neg (by omega)]; rfl
theorem dec_low {u : Nat} (h : u < 10) : Lib.decDigits u = [UInt8.ofNat (48 + u)] := by rw [Lib.decDigits, dif_pos h]
theorem dec_high {u : Nat} (h : ¬ u < 10) : Lib.decDigits u = Lib.decDigits (u / 10) ++ [UInt8.ofNat (48 + u % 10)] := by rw [Lib.decDigits, dif_neg h]
theorem dig_nat {u : Nat} (h : u < 10) : (UInt8.ofNat (48 + u)).toNat = 48 + u := by rw [UInt8.toNat_ofNat']; omega
theorem dec_digits (u : Nat) : ∀ c ∈ Lib.decDigits u, 48 ≤ c.toNat ∧ c.toNat ≤ 57 := by
 induction u using Nat.strongRecOn with
 | _ u ih =>
  intro c hc
  by_cases h : u < 10
  ·rw [dec_low h, List.mem_singleton] at hc
   subst hc
   rw [dig_nat h]; omega
  ·rw [dec_high h] at hc
   rcases List.mem_append.1 hc with hc | hc
   ·exact ih (u / 10) (by omega) c hc
   ·rw [List.mem_singleton] at hc
    subst hc
    rw [dig_nat (by omega)]; omega
theorem dec_ne (u : Nat) : Lib.decDigits u ≠ [] := by
 by_cases h : u < 10
 ·rw [dec_low h]; simp
 ·rw [dec_high h]; simp
theorem numS_size (n : Int) (h : -9223372036854775808 ≤ n ∧ n ≤ 9223372036854775807) : (numS n).size ≤ 21 := by
 have := Lib.itoa_length_le n h.1 h.2
 show (Lib.itoa n).toArray.size ≤ 21
 simpa using this
end Go.Proofs.YtdhmhgjjppeodaaGreatDoor
