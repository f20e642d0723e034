/- Acts as texts, in plain words; acts out of the fields of a line. No program in sight. -/
import Derived.Test.YteidpejjjphecaaGreatDoorH2
import Derived.Test.YteidpejjjphecaaGreatDoorBdI7x14
namespace Go.Proofs.YteidpejjjphecaaGreatDoor
open Go.RowKit
def addN (s : ByteArray) (n : Int) : ByteArray := (s ++ spc1) ++ numS n
def lineS (w : ByteArray) (l : List Int) : ByteArray := l.foldl addN w
theorem lineS_list (w : ByteArray) (l : List Int) : (lineS w l).data.toList = jn 32 (w.data.toList :: l.map Lib.itoa) := by
 show (l.foldl addN w).data.toList = (l.map Lib.itoa).foldl (jnStep 32) w.data.toList
 induction l generalizing w with
 | nil => rfl
 | cons n l ih =>
  rw [List.foldl_cons, ih, List.map_cons, List.foldl_cons]
  congr 1
  simp [addN, jnStep, ByteArray.data_append, spc1, numS]
def wOrder : ByteArray := ⟨#[111, 114, 100, 101, 114]⟩
def wWhy : ByteArray := ⟨#[119, 104, 121]⟩
end Go.Proofs.YteidpejjjphecaaGreatDoor
