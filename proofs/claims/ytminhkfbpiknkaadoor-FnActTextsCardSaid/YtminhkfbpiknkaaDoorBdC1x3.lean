/- Several texts in one: Contracts: slices of strings; LongestLine. Contracts: words: areBytes, areWords, l36Ok. Contracts: slices of ints, the helpers of the laws. -/
import Derived.BigQuiet
import Derived.Test.YtminhkfbpiknkaaDoorBdA1x6
namespace Go.Proofs.YtminhkfbpiknkaaDoor
open Go.RowKit
theorem infoString : (Tryd.prog.info? 9).map (fun i => (i.zero, i.size, i.bytes)) = some (some (.string ByteArray.empty), 1, 16) := by kernel_rfl
open Go.RowKit
def byteB (a b : Int) (c : UInt8) : Bool := decide (a ≤ (c.toNat : Int)) && decide ((c.toNat : Int) ≤ b)
def bytesB (s : ByteArray) (a b : Int) : Bool := s.data.toList.all (byteB a b)
theorem byteB_t {a b : Int} {c : UInt8} (h1 : ¬ (c.toNat : Int) < a) (h2 : ¬ b < (c.toNat : Int)) : byteB a b c = true := by simp [byteB]; omega
theorem byteB_f1 {a b : Int} {c : UInt8} (h1 : (c.toNat : Int) < a) : byteB a b c = false := by simp [byteB]; omega
theorem byteB_f2 {a b : Int} {c : UInt8} (h1 : b < (c.toNat : Int)) : byteB a b c = false := by simp [byteB]; omega
open Go.RowKit
theorem infoInt : (Tryd.prog.info? 3).map (fun i => (i.zero, i.size, i.bytes)) = some (some (.int .i64 0), 1, 8) := by kernel_rfl
def mkInt (k : Int) : List Value := [.int .i64 k]
theorem cInt_one (a : Int) : ∀ y ∈ cInt a, y.oneCell' = true := by intro y hy; simp [cInt] at hy; subst hy; rfl
end Go.Proofs.YtminhkfbpiknkaaDoor
