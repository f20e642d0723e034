/- Several texts in one: Contracts: LiftControl. Written by a program (gen_k1.py). Contracts: TiltArm. Written by a program (gen_k12.py). Contracts: TiltArm of the reference. Written by a program (gen_k12.py). Contracts: copies of players. Written by a program (gen_kp.py). Contracts: copies of Company. Written by a program (gen_copy.py). Contracts: copies of Theatre. Written by a program (gen_copy.py). -/
import Derived.Deep.DeepCutAuto
import Derived.StillTailTactics
import Derived.Test.YtdhmhgjjppeodaaGreatDoorBdCPControlx2
import Derived.Test.YtdhmhgjjppeodaaGreatDoorBdC1x9
import Derived.Test.YtdhmhgjjppeodaaGreatDoorKC
import Derived.Test.YtdhmhgjjppeodaaGreatDoorBdM7x3
import Derived.Test.YtdhmhgjjppeodaaGreatDoorBdI7x12
namespace Go.Proofs.YtdhmhgjjppeodaaGreatDoor
open Go.RowKit
open Go.RowKit
open Go.RowKit
theorem chg_drewN {w w' : World} {S : List Nat} (h : Chg S w w') (n : Nat) : Chg S w (w'.drewN n) := ⟨h.os, h.tape, h.output, h.size, h.block⟩
open Go.RowKit
open Go.RowKit
open Go.RowKit
end Go.Proofs.YtdhmhgjjppeodaaGreatDoor
