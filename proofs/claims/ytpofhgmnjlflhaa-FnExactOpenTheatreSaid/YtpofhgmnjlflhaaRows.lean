/-
  No cell of these rows narrows 'for every input' (looked for: loops, veiled, ifaces, maps, wideKeys, modest, calm, conditions, laid).
  DERIVED. THE GIVEN ROWS OF THIS SEAT. 10 by the template 'for every input the law returns true; each argument reads behind the call as it read before'; 0 by the template 'total and deterministic' (their statements: YtpofhgmnjlflhaaTotals.lean).
  GIVEN WITH THE SEED: the statements are not yours to turn. If you find one false, say at which input.
  Laid BY PROGRAM, IN A SANDBOX (cutbox-rows.mjs): the forced cells as the released guide's own fill.sh prints them over the translation 243bba40e75ace0f… (all of the seat's roots in one cut). By AI agents, Wed Nov 11 2026. No macro, syntax, notation, axiom, sorry.
-/
import Derived.Test.YtpofhgmnjlflhaaChecked
import GoSem.Claim
import GoSem.ClaimJoined
import GoSem.ClaimMapViews
import Derived.JoinedTies
import Derived.KernelRfl
namespace Go.Proofs.Ytpofhgmnjlflhaa
/- THE CELL 'sum', in the pinned program and in every row, IS THE sha256 OF THE DUMP (.gsa) THAT YtpofhgmnjlflhaaProg.lean LOADS. Nothing in Lean hashes anything: it is a label: what it is worth is what the hold of that sum in a sandbox is worth. -/
noncomputable def Try.pinned : Pinned := { name := "ytpofhgmnjlflhaa", sum := "243bba40e75ace0f63ca69cf68f03c224afd136a6ab439f2929ccb5922b9ab96", checked := Try.checked }
namespace Rows
def none {H : Type} : Left H := { results := [], args := [] }

/-- 'laws.FnExactCompanyOk': WHATEVER THE INPUT: true; the input reads as it did. -/
def fnExactCompanyOkSpec : ChangeSpec := { name := "fnExactCompanyOk", fn := fun _ => fun
  | [d] => { results := [.lit (.bool true)], args := [d] }
  | _ => none }
def fnExactCompanyOkRow : OpenClaim := { program := "ytpofhgmnjlflhaa", sum := "243bba40e75ace0f63ca69cf68f03c224afd136a6ab439f2929ccb5922b9ab96", func := "loop.example/g03306/laws.FnExactCompanyOk", spec := "fnExactCompanyOk", apart := false }
def FnExactCompanyOkSaid : Prop := fnExactCompanyOkRow.holds Try.pinned (OpenSpec.ofChange fnExactCompanyOkSpec)

/-- ITS FALSE NEIGHBOUR: 'it returns false'. Refute it at one input. -/
def fnExactCompanyOkWrong : ChangeSpec := { name := "fnExactCompanyOk", fn := fun _ => fun
  | [d] => { results := [.lit (.bool false)], args := [d] }
  | _ => none }
def FnExactCompanyOkWrongFalsely : Prop := fnExactCompanyOkRow.holds Try.pinned (OpenSpec.ofChange fnExactCompanyOkWrong)

/-- 'laws.FnExactAllPuppets': WHATEVER THE INPUT: true; the input reads as it did. -/
def fnExactAllPuppetsSpec : ChangeSpec := { name := "fnExactAllPuppets", fn := fun _ => fun
  | [d] => { results := [.lit (.bool true)], args := [d] }
  | _ => none }
def fnExactAllPuppetsRow : OpenClaim := { program := "ytpofhgmnjlflhaa", sum := "243bba40e75ace0f63ca69cf68f03c224afd136a6ab439f2929ccb5922b9ab96", func := "loop.example/g03306/laws.FnExactAllPuppets", spec := "fnExactAllPuppets", apart := false }
def FnExactAllPuppetsSaid : Prop := fnExactAllPuppetsRow.holds Try.pinned (OpenSpec.ofChange fnExactAllPuppetsSpec)

/-- ITS FALSE NEIGHBOUR: 'it returns false'. Refute it at one input. -/
def fnExactAllPuppetsWrong : ChangeSpec := { name := "fnExactAllPuppets", fn := fun _ => fun
  | [d] => { results := [.lit (.bool false)], args := [d] }
  | _ => none }
def FnExactAllPuppetsWrongFalsely : Prop := fnExactAllPuppetsRow.holds Try.pinned (OpenSpec.ofChange fnExactAllPuppetsWrong)

/-- 'laws.FnExactTheatreOk': WHATEVER THE INPUT: true; the input reads as it did. -/
def fnExactTheatreOkSpec : ChangeSpec := { name := "fnExactTheatreOk", fn := fun _ => fun
  | [d] => { results := [.lit (.bool true)], args := [d] }
  | _ => none }
def fnExactTheatreOkRow : OpenClaim := { program := "ytpofhgmnjlflhaa", sum := "243bba40e75ace0f63ca69cf68f03c224afd136a6ab439f2929ccb5922b9ab96", func := "loop.example/g03306/laws.FnExactTheatreOk", spec := "fnExactTheatreOk", apart := false }
def FnExactTheatreOkSaid : Prop := fnExactTheatreOkRow.holds Try.pinned (OpenSpec.ofChange fnExactTheatreOkSpec)

/-- ITS FALSE NEIGHBOUR: 'it returns false'. Refute it at one input. -/
def fnExactTheatreOkWrong : ChangeSpec := { name := "fnExactTheatreOk", fn := fun _ => fun
  | [d] => { results := [.lit (.bool false)], args := [d] }
  | _ => none }
def FnExactTheatreOkWrongFalsely : Prop := fnExactTheatreOkRow.holds Try.pinned (OpenSpec.ofChange fnExactTheatreOkWrong)

/-- 'laws.FnExactOpenTheatre': WHATEVER THE INPUT: true; the input reads as it did. -/
def fnExactOpenTheatreSpec : ChangeSpec := { name := "fnExactOpenTheatre", fn := fun _ => fun
  | [d1, d2] => { results := [.lit (.bool true)], args := [d1, d2] }
  | _ => none }
def fnExactOpenTheatreRow : OpenClaim := { program := "ytpofhgmnjlflhaa", sum := "243bba40e75ace0f63ca69cf68f03c224afd136a6ab439f2929ccb5922b9ab96", func := "loop.example/g03306/laws.FnExactOpenTheatre", spec := "fnExactOpenTheatre", apart := false }
def FnExactOpenTheatreSaid : Prop := fnExactOpenTheatreRow.holds Try.pinned (OpenSpec.ofChange fnExactOpenTheatreSpec)

/-- ITS FALSE NEIGHBOUR: 'it returns false'. Refute it at one input. -/
def fnExactOpenTheatreWrong : ChangeSpec := { name := "fnExactOpenTheatre", fn := fun _ => fun
  | [d1, d2] => { results := [.lit (.bool false)], args := [d1, d2] }
  | _ => none }
def FnExactOpenTheatreWrongFalsely : Prop := fnExactOpenTheatreRow.holds Try.pinned (OpenSpec.ofChange fnExactOpenTheatreWrong)

/-- 'laws.FnExactSampleTheatre': WHATEVER THE INPUT: true; the input reads as it did. -/
def fnExactSampleTheatreSpec : ChangeSpec := { name := "fnExactSampleTheatre", fn := fun _ => fun
  | [] => { results := [.lit (.bool true)], args := [] }
  | _ => none }
def fnExactSampleTheatreRow : OpenClaim := { program := "ytpofhgmnjlflhaa", sum := "243bba40e75ace0f63ca69cf68f03c224afd136a6ab439f2929ccb5922b9ab96", func := "loop.example/g03306/laws.FnExactSampleTheatre", spec := "fnExactSampleTheatre", apart := false }
def FnExactSampleTheatreSaid : Prop := fnExactSampleTheatreRow.holds Try.pinned (OpenSpec.ofChange fnExactSampleTheatreSpec)

/-- ITS FALSE NEIGHBOUR: 'it returns false'. Refute it at one input. -/
def fnExactSampleTheatreWrong : ChangeSpec := { name := "fnExactSampleTheatre", fn := fun _ => fun
  | [] => { results := [.lit (.bool false)], args := [] }
  | _ => none }
def FnExactSampleTheatreWrongFalsely : Prop := fnExactSampleTheatreRow.holds Try.pinned (OpenSpec.ofChange fnExactSampleTheatreWrong)

/-- 'laws.FnExactTakeBack': WHATEVER THE INPUT: true; the input reads as it did. -/
def fnExactTakeBackSpec : ChangeSpec := { name := "fnExactTakeBack", fn := fun _ => fun
  | [d] => { results := [.lit (.bool true)], args := [d] }
  | _ => none }
def fnExactTakeBackRow : OpenClaim := { program := "ytpofhgmnjlflhaa", sum := "243bba40e75ace0f63ca69cf68f03c224afd136a6ab439f2929ccb5922b9ab96", func := "loop.example/g03306/laws.FnExactTakeBack", spec := "fnExactTakeBack", apart := false }
def FnExactTakeBackSaid : Prop := fnExactTakeBackRow.holds Try.pinned (OpenSpec.ofChange fnExactTakeBackSpec)

/-- ITS FALSE NEIGHBOUR: 'it returns false'. Refute it at one input. -/
def fnExactTakeBackWrong : ChangeSpec := { name := "fnExactTakeBack", fn := fun _ => fun
  | [d] => { results := [.lit (.bool false)], args := [d] }
  | _ => none }
def FnExactTakeBackWrongFalsely : Prop := fnExactTakeBackRow.holds Try.pinned (OpenSpec.ofChange fnExactTakeBackWrong)

/-- 'laws.FnExactCrossOver': WHATEVER THE INPUT: true; the input reads as it did. -/
def fnExactCrossOverSpec : ChangeSpec := { name := "fnExactCrossOver", fn := fun _ => fun
  | [d1, d2, d3] => { results := [.lit (.bool true)], args := [d1, d2, d3] }
  | _ => none }
def fnExactCrossOverRow : OpenClaim := { program := "ytpofhgmnjlflhaa", sum := "243bba40e75ace0f63ca69cf68f03c224afd136a6ab439f2929ccb5922b9ab96", func := "loop.example/g03306/laws.FnExactCrossOver", spec := "fnExactCrossOver", apart := false }
def FnExactCrossOverSaid : Prop := fnExactCrossOverRow.holds Try.pinned (OpenSpec.ofChange fnExactCrossOverSpec)

/-- ITS FALSE NEIGHBOUR: 'it returns false'. Refute it at one input. -/
def fnExactCrossOverWrong : ChangeSpec := { name := "fnExactCrossOver", fn := fun _ => fun
  | [d1, d2, d3] => { results := [.lit (.bool false)], args := [d1, d2, d3] }
  | _ => none }
def FnExactCrossOverWrongFalsely : Prop := fnExactCrossOverRow.holds Try.pinned (OpenSpec.ofChange fnExactCrossOverWrong)

/-- 'laws.FnExactTidy': WHATEVER THE INPUT: true; the input reads as it did. -/
def fnExactTidySpec : ChangeSpec := { name := "fnExactTidy", fn := fun _ => fun
  | [d] => { results := [.lit (.bool true)], args := [d] }
  | _ => none }
def fnExactTidyRow : OpenClaim := { program := "ytpofhgmnjlflhaa", sum := "243bba40e75ace0f63ca69cf68f03c224afd136a6ab439f2929ccb5922b9ab96", func := "loop.example/g03306/laws.FnExactTidy", spec := "fnExactTidy", apart := false }
def FnExactTidySaid : Prop := fnExactTidyRow.holds Try.pinned (OpenSpec.ofChange fnExactTidySpec)

/-- ITS FALSE NEIGHBOUR: 'it returns false'. Refute it at one input. -/
def fnExactTidyWrong : ChangeSpec := { name := "fnExactTidy", fn := fun _ => fun
  | [d] => { results := [.lit (.bool false)], args := [d] }
  | _ => none }
def FnExactTidyWrongFalsely : Prop := fnExactTidyRow.holds Try.pinned (OpenSpec.ofChange fnExactTidyWrong)

/-- 'laws.FnExactHirePlayer': WHATEVER THE INPUT: true; the input reads as it did. -/
def fnExactHirePlayerSpec : ChangeSpec := { name := "fnExactHirePlayer", fn := fun _ => fun
  | [d1, d2] => { results := [.lit (.bool true)], args := [d1, d2] }
  | _ => none }
def fnExactHirePlayerRow : OpenClaim := { program := "ytpofhgmnjlflhaa", sum := "243bba40e75ace0f63ca69cf68f03c224afd136a6ab439f2929ccb5922b9ab96", func := "loop.example/g03306/laws.FnExactHirePlayer", spec := "fnExactHirePlayer", apart := false }
def FnExactHirePlayerSaid : Prop := fnExactHirePlayerRow.holds Try.pinned (OpenSpec.ofChange fnExactHirePlayerSpec)

/-- ITS FALSE NEIGHBOUR: 'it returns false'. Refute it at one input. -/
def fnExactHirePlayerWrong : ChangeSpec := { name := "fnExactHirePlayer", fn := fun _ => fun
  | [d1, d2] => { results := [.lit (.bool false)], args := [d1, d2] }
  | _ => none }
def FnExactHirePlayerWrongFalsely : Prop := fnExactHirePlayerRow.holds Try.pinned (OpenSpec.ofChange fnExactHirePlayerWrong)

/-- 'laws.FnExactMovePuppet': WHATEVER THE INPUT: true; the input reads as it did. -/
def fnExactMovePuppetSpec : ChangeSpec := { name := "fnExactMovePuppet", fn := fun _ => fun
  | [d1, d2, d3] => { results := [.lit (.bool true)], args := [d1, d2, d3] }
  | _ => none }
def fnExactMovePuppetRow : OpenClaim := { program := "ytpofhgmnjlflhaa", sum := "243bba40e75ace0f63ca69cf68f03c224afd136a6ab439f2929ccb5922b9ab96", func := "loop.example/g03306/laws.FnExactMovePuppet", spec := "fnExactMovePuppet", apart := false }
def FnExactMovePuppetSaid : Prop := fnExactMovePuppetRow.holds Try.pinned (OpenSpec.ofChange fnExactMovePuppetSpec)

/-- ITS FALSE NEIGHBOUR: 'it returns false'. Refute it at one input. -/
def fnExactMovePuppetWrong : ChangeSpec := { name := "fnExactMovePuppet", fn := fun _ => fun
  | [d1, d2, d3] => { results := [.lit (.bool false)], args := [d1, d2, d3] }
  | _ => none }
def FnExactMovePuppetWrongFalsely : Prop := fnExactMovePuppetRow.holds Try.pinned (OpenSpec.ofChange fnExactMovePuppetWrong)

/- THE SECOND FORM. 'bulk': how many values and letters a reading holds, each counted each time it is reached (what is shared counts as often as it is met; a slice's spare places count too). A statement '..UptoSaid' is the law's where the arguments, and the package variables that the reading takes, are together of bulk at most 1048576: NARROWER than '..Said'. Prove '..Said' where nothing that the law and all that it calls make is longer than what came in: it says more and counts as full. Else prove '..UptoSaid'. A law counts once. -/
mutual
def uptoBulk {H : Type} : DataW H → Nat
  | .lit (.string bytes) => bytes.length + 1
  | .lit _ => 1
  | .nil => 1
  | .ptr d => uptoBulk d + 1
  | .slice elems spare => uptoBulkAll elems + uptoBulkAll spare + 1
  | .agg parts => uptoBulkAll parts + 1
  | .iface _ d => uptoBulk d + 1
  | .map entries => uptoBulkEntries entries + 1
  | .held _ => 1
def uptoBulkAll {H : Type} : List (DataW H) → Nat
  | [] => 0
  | d :: r => uptoBulk d + uptoBulkAll r
def uptoBulkEntries {H : Type} : List (Lit × DataW H) → Nat
  | [] => 0
  | x :: r => uptoBulkEntry x + uptoBulkEntries r
def uptoBulkEntry {H : Type} : Lit × DataW H → Nat
  | (.string bytes, d) => bytes.length + uptoBulk d + 1
  | (_, d) => uptoBulk d + 1
 end
def uptoSmall : (H : Type) → List (DataW H) → Bool := fun _ ds => decide (uptoBulkAll ds ≤ 1048576)
def OpenSpec.upto (s : _root_.Go.ChangeSpec) : _root_.Go.OpenSpec := { _root_.Go.OpenSpec.ofChange s with cond := some uptoSmall }

/-- 'laws.FnExactCompanyOk', WHERE WHAT IT READS IS OF BULK AT MOST 1048576: true; the input reads as it did. -/
def fnExactCompanyOkUptoRow : OpenClaim := { program := "ytpofhgmnjlflhaa", sum := "243bba40e75ace0f63ca69cf68f03c224afd136a6ab439f2929ccb5922b9ab96", func := "loop.example/g03306/laws.FnExactCompanyOk", spec := "fnExactCompanyOk", apart := false, narrowed := true }
def FnExactCompanyOkUptoSaid : Prop := fnExactCompanyOkUptoRow.holds Try.pinned (OpenSpec.upto fnExactCompanyOkSpec)

/-- 'laws.FnExactAllPuppets', WHERE WHAT IT READS IS OF BULK AT MOST 1048576: true; the input reads as it did. -/
def fnExactAllPuppetsUptoRow : OpenClaim := { program := "ytpofhgmnjlflhaa", sum := "243bba40e75ace0f63ca69cf68f03c224afd136a6ab439f2929ccb5922b9ab96", func := "loop.example/g03306/laws.FnExactAllPuppets", spec := "fnExactAllPuppets", apart := false, narrowed := true }
def FnExactAllPuppetsUptoSaid : Prop := fnExactAllPuppetsUptoRow.holds Try.pinned (OpenSpec.upto fnExactAllPuppetsSpec)

/-- 'laws.FnExactTheatreOk', WHERE WHAT IT READS IS OF BULK AT MOST 1048576: true; the input reads as it did. -/
def fnExactTheatreOkUptoRow : OpenClaim := { program := "ytpofhgmnjlflhaa", sum := "243bba40e75ace0f63ca69cf68f03c224afd136a6ab439f2929ccb5922b9ab96", func := "loop.example/g03306/laws.FnExactTheatreOk", spec := "fnExactTheatreOk", apart := false, narrowed := true }
def FnExactTheatreOkUptoSaid : Prop := fnExactTheatreOkUptoRow.holds Try.pinned (OpenSpec.upto fnExactTheatreOkSpec)

/-- 'laws.FnExactOpenTheatre', WHERE WHAT IT READS IS OF BULK AT MOST 1048576: true; the input reads as it did. -/
def fnExactOpenTheatreUptoRow : OpenClaim := { program := "ytpofhgmnjlflhaa", sum := "243bba40e75ace0f63ca69cf68f03c224afd136a6ab439f2929ccb5922b9ab96", func := "loop.example/g03306/laws.FnExactOpenTheatre", spec := "fnExactOpenTheatre", apart := false, narrowed := true }
def FnExactOpenTheatreUptoSaid : Prop := fnExactOpenTheatreUptoRow.holds Try.pinned (OpenSpec.upto fnExactOpenTheatreSpec)

/-- 'laws.FnExactSampleTheatre', WHERE WHAT IT READS IS OF BULK AT MOST 1048576: true; the input reads as it did. -/
def fnExactSampleTheatreUptoRow : OpenClaim := { program := "ytpofhgmnjlflhaa", sum := "243bba40e75ace0f63ca69cf68f03c224afd136a6ab439f2929ccb5922b9ab96", func := "loop.example/g03306/laws.FnExactSampleTheatre", spec := "fnExactSampleTheatre", apart := false, narrowed := true }
def FnExactSampleTheatreUptoSaid : Prop := fnExactSampleTheatreUptoRow.holds Try.pinned (OpenSpec.upto fnExactSampleTheatreSpec)

/-- 'laws.FnExactTakeBack', WHERE WHAT IT READS IS OF BULK AT MOST 1048576: true; the input reads as it did. -/
def fnExactTakeBackUptoRow : OpenClaim := { program := "ytpofhgmnjlflhaa", sum := "243bba40e75ace0f63ca69cf68f03c224afd136a6ab439f2929ccb5922b9ab96", func := "loop.example/g03306/laws.FnExactTakeBack", spec := "fnExactTakeBack", apart := false, narrowed := true }
def FnExactTakeBackUptoSaid : Prop := fnExactTakeBackUptoRow.holds Try.pinned (OpenSpec.upto fnExactTakeBackSpec)

/-- 'laws.FnExactCrossOver', WHERE WHAT IT READS IS OF BULK AT MOST 1048576: true; the input reads as it did. -/
def fnExactCrossOverUptoRow : OpenClaim := { program := "ytpofhgmnjlflhaa", sum := "243bba40e75ace0f63ca69cf68f03c224afd136a6ab439f2929ccb5922b9ab96", func := "loop.example/g03306/laws.FnExactCrossOver", spec := "fnExactCrossOver", apart := false, narrowed := true }
def FnExactCrossOverUptoSaid : Prop := fnExactCrossOverUptoRow.holds Try.pinned (OpenSpec.upto fnExactCrossOverSpec)

/-- 'laws.FnExactTidy', WHERE WHAT IT READS IS OF BULK AT MOST 1048576: true; the input reads as it did. -/
def fnExactTidyUptoRow : OpenClaim := { program := "ytpofhgmnjlflhaa", sum := "243bba40e75ace0f63ca69cf68f03c224afd136a6ab439f2929ccb5922b9ab96", func := "loop.example/g03306/laws.FnExactTidy", spec := "fnExactTidy", apart := false, narrowed := true }
def FnExactTidyUptoSaid : Prop := fnExactTidyUptoRow.holds Try.pinned (OpenSpec.upto fnExactTidySpec)

/-- 'laws.FnExactHirePlayer', WHERE WHAT IT READS IS OF BULK AT MOST 1048576: true; the input reads as it did. -/
def fnExactHirePlayerUptoRow : OpenClaim := { program := "ytpofhgmnjlflhaa", sum := "243bba40e75ace0f63ca69cf68f03c224afd136a6ab439f2929ccb5922b9ab96", func := "loop.example/g03306/laws.FnExactHirePlayer", spec := "fnExactHirePlayer", apart := false, narrowed := true }
def FnExactHirePlayerUptoSaid : Prop := fnExactHirePlayerUptoRow.holds Try.pinned (OpenSpec.upto fnExactHirePlayerSpec)

/-- 'laws.FnExactMovePuppet', WHERE WHAT IT READS IS OF BULK AT MOST 1048576: true; the input reads as it did. -/
def fnExactMovePuppetUptoRow : OpenClaim := { program := "ytpofhgmnjlflhaa", sum := "243bba40e75ace0f63ca69cf68f03c224afd136a6ab439f2929ccb5922b9ab96", func := "loop.example/g03306/laws.FnExactMovePuppet", spec := "fnExactMovePuppet", apart := false, narrowed := true }
def FnExactMovePuppetUptoSaid : Prop := fnExactMovePuppetUptoRow.holds Try.pinned (OpenSpec.upto fnExactMovePuppetSpec)

end Rows
end Go.Proofs.Ytpofhgmnjlflhaa
