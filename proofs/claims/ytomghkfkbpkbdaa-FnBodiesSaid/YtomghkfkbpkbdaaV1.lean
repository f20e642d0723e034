/- Contracts: VotesOk of the program and of the reference. -/
import Derived.Deep.QuietTactic
import Derived.BigQuiet
import Derived.Test.YtomghkfkbpkbdaaBdC1x8
import Derived.Test.YtomghkfkbpkbdaaBdI7x11
namespace Go.Proofs.Ytomghkfkbpkbdaa
open Go.RowKit

def voteB (n0 : Nat) (v : List Int) : Bool := orderB v && v.length == n0
def votesB (vv : List (List Int)) : Bool := vv.all (voteB (vv.getD 0 []).length) && inB vv.length 1 15
theorem row0_len {vv : List (List Int)} (h : 0 < vv.length) : (vv.getD 0 []).length = vv[0].length := by rw [List.getD_eq_getElem?_getD, List.getElem?_eq_getElem h]; rfl
theorem votes_f1 {vv : List (List Int)} (h : vv.all (voteB (vv.getD 0 []).length) = false) : votesB vv = false := by rw [votesB, h]; rfl
theorem votes_f2 {vv : List (List Int)} (h : inB vv.length 1 15 = false) : votesB vv = false := by rw [votesB, h, Bool.and_false]
theorem votes_t {vv : List (List Int)} (h : vv.all (voteB (vv.getD 0 []).length) = true) : votesB vv = inB vv.length 1 15 := by rw [votesB, h]; rfl

end Go.Proofs.Ytomghkfkbpkbdaa
