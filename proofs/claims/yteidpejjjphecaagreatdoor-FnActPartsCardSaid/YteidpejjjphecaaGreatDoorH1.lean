/- Numbers as texts, in plain words. No program in sight. -/
import Derived.Lib.ItoaLen
import Derived.Lib.AtoiTie
import Derived.Test.YteidpejjjphecaaGreatDoorBdA1x10
namespace Go.Proofs.YteidpejjjphecaaGreatDoor
open Go.RowKit
def spc1 : ByteArray := ⟨#[32]⟩
def numS (n : Int) : ByteArray := ⟨(Lib.itoa n).toArray⟩
theorem ba_ext {s t : ByteArray} (h : s.data.toList = t.data.toList) : s = t := by
 cases s; cases t
 congr 1
 exact Array.toList_inj.1 h
theorem numS_list (n : Int) : (numS n).data.toList = Lib.itoa n := by simp [numS]
theorem numS_size (n : Int) (h : -9223372036854775808 ≤ n ∧ n ≤ 9223372036854775807) : (numS n).size ≤ 21 := by
 have := Lib.itoa_length_le n h.1 h.2
 show (Lib.itoa n).toArray.size ≤ 21
 simpa using this
end Go.Proofs.YteidpejjjphecaaGreatDoor
