/- Contracts: LiftControl. Written by a program (gen_k1.py). -/
import Derived.Test.YtjbhlbcjljdjmaaCPControl
import Derived.Deep.DeepCutAuto
namespace Go.Proofs.Ytjbhlbcjljdjmaa
open Go.RowKit
def liftB (ht b : Int) : Bool := (inB ht (-500) 500 && inB b (-500) 500) && inB (ht + b) 0 500
def liftH (ht b : Int) : Int := if liftB ht b = true then ht + b else ht
theorem lift_f1 {ht b : Int} (h : inB ht (-500) 500 = false) : liftB ht b = false := by rw [liftB, h]; rfl
theorem lift_f2 {ht b : Int} (h : inB b (-500) 500 = false) : liftB ht b = false := by rw [liftB, h, Bool.and_false]; rfl
theorem lift_f3 {ht b : Int} (h : inB (ht + b) 0 500 = false) : liftB ht b = false := by rw [liftB, h, Bool.and_false]
theorem lift_t {ht b : Int} (h1 : inB ht (-500) 500 = true) (h2 : inB b (-500) 500 = true) (h3 : inB (ht + b) 0 500 = true) : liftB ht b = true := by rw [liftB, h1, h2, h3]; rfl
end Go.Proofs.Ytjbhlbcjljdjmaa
