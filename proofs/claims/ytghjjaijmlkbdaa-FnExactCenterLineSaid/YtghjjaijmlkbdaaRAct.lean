/- Contracts of the laws' helpers for records Act. Written by a program (gen_rec.py). -/
import Derived.Test.YtghjjaijmlkbdaaM2
import Derived.StillTailTactics
import Derived.BigQuiet
namespace Go.Proofs.Ytghjjaijmlkbdaa
open Go.RowKit

abbrev RAct := Int × Int × Int
def cAct (t : RAct) : List Value := [.int .i64 t.1, .int .i64 t.2.1, .int .i64 t.2.2]
theorem cAct_len (a : RAct) : (cAct a).length = 3 := rfl
def mkAct (k : Int) : List Value := [.int .i64 k, .int .i64 (k + 1), .int .i64 (k + 2)]
theorem mkAct_len (k : Int) : (mkAct k).length = 3 := rfl
theorem infoAct : (Try.prog.info? 33).map (fun i => (i.zero, i.size, i.bytes)) = some (some (.agg #[.int .i64 0, .int .i64 0, .int .i64 0]), 3, 24) := by kernel_rfl
theorem toAct_any (a0 : Int) (a1 : Int) (a2 : Int) (w : World) :
    Calls Try.prog 19 #[.agg #[.int .i64 a0, .int .i64 a1, .int .i64 a2]] w fun e w' => e = .returned (.agg #[.int .i64 a0, .int .i64 a1, .int .i64 a2]) ∧ Below w.heap.size w w' := by
  go_enter Try.func19, Try.ntmps19
  go_wp2
  exact bodyPost_ret (v := .agg #[.int .i64 a0, .int .i64 a1, .int .i64 a2]) (by simp [results, Try.results19, go_sem]) rfl ⟨rfl, by (repeat' (first | exact Below.refl _ _ | (refine Below.setCell ?_ (by first | omega | (simp; omega) | (simp; done)) _) | (refine Below.alloc ?_ (by first | omega | (simp; omega) | (simp; done)) _) | (refine Below.drew ?_) | (refine below_drewN ?_ _) | (refine Below.trans ?_ (Below.mono (by assumption) (by first | omega | (simp; omega) | (simp; done))))))⟩
end Go.Proofs.Ytghjjaijmlkbdaa
