/-
  No cell of these rows narrows 'for every input' (looked for: loops, veiled, ifaces, maps, wideKeys, modest, calm, conditions, laid).
  DERIVED. THE GIVEN ROWS OF THIS SEAT. 11 by the template 'for every input the law returns true; each argument reads behind the call as it read before'; 0 by the template 'total and deterministic' (their statements: YtghjjaijmlkbdaaTotals.lean).
  GIVEN WITH THE SEED: the statements are not yours to turn. If you find one false, say at which input.
  Laid BY PROGRAM, IN A SANDBOX (cutbox-rows.mjs): the forced cells as the released guide's own fill.sh prints them over the translation 980acaccea46c360… (all of the seat's roots in one cut). By AI agents, Wed Nov 11 2026. No macro, syntax, notation, axiom, sorry.
-/
import Derived.Test.YtghjjaijmlkbdaaChecked
import GoSem.Claim
import GoSem.ClaimJoined
import GoSem.ClaimMapViews
import Derived.JoinedTies
import Derived.KernelRfl
namespace Go.Proofs.Ytghjjaijmlkbdaa
/- THE CELL 'sum', in the pinned program and in every row, IS THE sha256 OF THE DUMP (.gsa) THAT YtghjjaijmlkbdaaProg.lean LOADS. Nothing in Lean hashes anything: it is a label: what it is worth is what the hold of that sum in a sandbox is worth. -/
noncomputable def Try.pinned : Pinned := { name := "ytghjjaijmlkbdaa", sum := "980acaccea46c36054d24c62e1f310a98bac2e784f15e1a6cad24c405ae3b150", checked := Try.checked }
namespace Rows
def none {H : Type} : Left H := { results := [], args := [] }

/-- 'laws.FnExactPullThread': WHATEVER THE INPUT: true; the input reads as it did. -/
def fnExactPullThreadSpec : ChangeSpec := { name := "fnExactPullThread", fn := fun _ => fun
  | [d1, d2] => { results := [.lit (.bool true)], args := [d1, d2] }
  | _ => none }
def fnExactPullThreadRow : OpenClaim := { program := "ytghjjaijmlkbdaa", sum := "980acaccea46c36054d24c62e1f310a98bac2e784f15e1a6cad24c405ae3b150", func := "loop.example/g03306/laws.FnExactPullThread", spec := "fnExactPullThread", apart := false }
def FnExactPullThreadSaid : Prop := fnExactPullThreadRow.holds Try.pinned (OpenSpec.ofChange fnExactPullThreadSpec)

/-- ITS FALSE NEIGHBOUR: 'it returns false'. Refute it at one input. -/
def fnExactPullThreadWrong : ChangeSpec := { name := "fnExactPullThread", fn := fun _ => fun
  | [d1, d2] => { results := [.lit (.bool false)], args := [d1, d2] }
  | _ => none }
def FnExactPullThreadWrongFalsely : Prop := fnExactPullThreadRow.holds Try.pinned (OpenSpec.ofChange fnExactPullThreadWrong)

/-- 'laws.FnExactActOk': WHATEVER THE INPUT: true; the input reads as it did. -/
def fnExactActOkSpec : ChangeSpec := { name := "fnExactActOk", fn := fun _ => fun
  | [d] => { results := [.lit (.bool true)], args := [d] }
  | _ => none }
def fnExactActOkRow : OpenClaim := { program := "ytghjjaijmlkbdaa", sum := "980acaccea46c36054d24c62e1f310a98bac2e784f15e1a6cad24c405ae3b150", func := "loop.example/g03306/laws.FnExactActOk", spec := "fnExactActOk", apart := false }
def FnExactActOkSaid : Prop := fnExactActOkRow.holds Try.pinned (OpenSpec.ofChange fnExactActOkSpec)

/-- ITS FALSE NEIGHBOUR: 'it returns false'. Refute it at one input. -/
def fnExactActOkWrong : ChangeSpec := { name := "fnExactActOk", fn := fun _ => fun
  | [d] => { results := [.lit (.bool false)], args := [d] }
  | _ => none }
def FnExactActOkWrongFalsely : Prop := fnExactActOkRow.holds Try.pinned (OpenSpec.ofChange fnExactActOkWrong)

/-- 'laws.FnExactLongestLine': WHATEVER THE INPUT: true; the input reads as it did. -/
def fnExactLongestLineSpec : ChangeSpec := { name := "fnExactLongestLine", fn := fun _ => fun
  | [d] => { results := [.lit (.bool true)], args := [d] }
  | _ => none }
def fnExactLongestLineRow : OpenClaim := { program := "ytghjjaijmlkbdaa", sum := "980acaccea46c36054d24c62e1f310a98bac2e784f15e1a6cad24c405ae3b150", func := "loop.example/g03306/laws.FnExactLongestLine", spec := "fnExactLongestLine", apart := false }
def FnExactLongestLineSaid : Prop := fnExactLongestLineRow.holds Try.pinned (OpenSpec.ofChange fnExactLongestLineSpec)

/-- ITS FALSE NEIGHBOUR: 'it returns false'. Refute it at one input. -/
def fnExactLongestLineWrong : ChangeSpec := { name := "fnExactLongestLine", fn := fun _ => fun
  | [d] => { results := [.lit (.bool false)], args := [d] }
  | _ => none }
def FnExactLongestLineWrongFalsely : Prop := fnExactLongestLineRow.holds Try.pinned (OpenSpec.ofChange fnExactLongestLineWrong)

/-- 'laws.FnExactWeakestThread': WHATEVER THE INPUT: true; the input reads as it did. -/
def fnExactWeakestThreadSpec : ChangeSpec := { name := "fnExactWeakestThread", fn := fun _ => fun
  | [d] => { results := [.lit (.bool true)], args := [d] }
  | _ => none }
def fnExactWeakestThreadRow : OpenClaim := { program := "ytghjjaijmlkbdaa", sum := "980acaccea46c36054d24c62e1f310a98bac2e784f15e1a6cad24c405ae3b150", func := "loop.example/g03306/laws.FnExactWeakestThread", spec := "fnExactWeakestThread", apart := false }
def FnExactWeakestThreadSaid : Prop := fnExactWeakestThreadRow.holds Try.pinned (OpenSpec.ofChange fnExactWeakestThreadSpec)

/-- ITS FALSE NEIGHBOUR: 'it returns false'. Refute it at one input. -/
def fnExactWeakestThreadWrong : ChangeSpec := { name := "fnExactWeakestThread", fn := fun _ => fun
  | [d] => { results := [.lit (.bool false)], args := [d] }
  | _ => none }
def FnExactWeakestThreadWrongFalsely : Prop := fnExactWeakestThreadRow.holds Try.pinned (OpenSpec.ofChange fnExactWeakestThreadWrong)

/-- 'laws.FnThreads': WHATEVER THE INPUT: true; the input reads as it did. -/
def fnThreadsSpec : ChangeSpec := { name := "fnThreads", fn := fun _ => fun
  | [d] => { results := [.lit (.bool true)], args := [d] }
  | _ => none }
def fnThreadsRow : OpenClaim := { program := "ytghjjaijmlkbdaa", sum := "980acaccea46c36054d24c62e1f310a98bac2e784f15e1a6cad24c405ae3b150", func := "loop.example/g03306/laws.FnThreads", spec := "fnThreads", apart := false }
def FnThreadsSaid : Prop := fnThreadsRow.holds Try.pinned (OpenSpec.ofChange fnThreadsSpec)

/-- ITS FALSE NEIGHBOUR: 'it returns false'. Refute it at one input. -/
def fnThreadsWrong : ChangeSpec := { name := "fnThreads", fn := fun _ => fun
  | [d] => { results := [.lit (.bool false)], args := [d] }
  | _ => none }
def FnThreadsWrongFalsely : Prop := fnThreadsRow.holds Try.pinned (OpenSpec.ofChange fnThreadsWrong)

/-- 'laws.FnExactFewestLines': WHATEVER THE INPUT: true; the input reads as it did. -/
def fnExactFewestLinesSpec : ChangeSpec := { name := "fnExactFewestLines", fn := fun _ => fun
  | [d1, d2] => { results := [.lit (.bool true)], args := [d1, d2] }
  | _ => none }
def fnExactFewestLinesRow : OpenClaim := { program := "ytghjjaijmlkbdaa", sum := "980acaccea46c36054d24c62e1f310a98bac2e784f15e1a6cad24c405ae3b150", func := "loop.example/g03306/laws.FnExactFewestLines", spec := "fnExactFewestLines", apart := false }
def FnExactFewestLinesSaid : Prop := fnExactFewestLinesRow.holds Try.pinned (OpenSpec.ofChange fnExactFewestLinesSpec)

/-- ITS FALSE NEIGHBOUR: 'it returns false'. Refute it at one input. -/
def fnExactFewestLinesWrong : ChangeSpec := { name := "fnExactFewestLines", fn := fun _ => fun
  | [d1, d2] => { results := [.lit (.bool false)], args := [d1, d2] }
  | _ => none }
def FnExactFewestLinesWrongFalsely : Prop := fnExactFewestLinesRow.holds Try.pinned (OpenSpec.ofChange fnExactFewestLinesWrong)

/-- 'laws.FnExactRenewed': WHATEVER THE INPUT: true; the input reads as it did. -/
def fnExactRenewedSpec : ChangeSpec := { name := "fnExactRenewed", fn := fun _ => fun
  | [d1, d2] => { results := [.lit (.bool true)], args := [d1, d2] }
  | _ => none }
def fnExactRenewedRow : OpenClaim := { program := "ytghjjaijmlkbdaa", sum := "980acaccea46c36054d24c62e1f310a98bac2e784f15e1a6cad24c405ae3b150", func := "loop.example/g03306/laws.FnExactRenewed", spec := "fnExactRenewed", apart := false }
def FnExactRenewedSaid : Prop := fnExactRenewedRow.holds Try.pinned (OpenSpec.ofChange fnExactRenewedSpec)

/-- ITS FALSE NEIGHBOUR: 'it returns false'. Refute it at one input. -/
def fnExactRenewedWrong : ChangeSpec := { name := "fnExactRenewed", fn := fun _ => fun
  | [d1, d2] => { results := [.lit (.bool false)], args := [d1, d2] }
  | _ => none }
def FnExactRenewedWrongFalsely : Prop := fnExactRenewedRow.holds Try.pinned (OpenSpec.ofChange fnExactRenewedWrong)

/-- 'laws.FnExactPosterLines': WHATEVER THE INPUT: true; the input reads as it did. -/
def fnExactPosterLinesSpec : ChangeSpec := { name := "fnExactPosterLines", fn := fun _ => fun
  | [d1, d2] => { results := [.lit (.bool true)], args := [d1, d2] }
  | _ => none }
def fnExactPosterLinesRow : OpenClaim := { program := "ytghjjaijmlkbdaa", sum := "980acaccea46c36054d24c62e1f310a98bac2e784f15e1a6cad24c405ae3b150", func := "loop.example/g03306/laws.FnExactPosterLines", spec := "fnExactPosterLines", apart := false }
def FnExactPosterLinesSaid : Prop := fnExactPosterLinesRow.holds Try.pinned (OpenSpec.ofChange fnExactPosterLinesSpec)

/-- ITS FALSE NEIGHBOUR: 'it returns false'. Refute it at one input. -/
def fnExactPosterLinesWrong : ChangeSpec := { name := "fnExactPosterLines", fn := fun _ => fun
  | [d1, d2] => { results := [.lit (.bool false)], args := [d1, d2] }
  | _ => none }
def FnExactPosterLinesWrongFalsely : Prop := fnExactPosterLinesRow.holds Try.pinned (OpenSpec.ofChange fnExactPosterLinesWrong)

/-- 'laws.FnExactVotesOk': WHATEVER THE INPUT: true; the input reads as it did. -/
def fnExactVotesOkSpec : ChangeSpec := { name := "fnExactVotesOk", fn := fun _ => fun
  | [d] => { results := [.lit (.bool true)], args := [d] }
  | _ => none }
def fnExactVotesOkRow : OpenClaim := { program := "ytghjjaijmlkbdaa", sum := "980acaccea46c36054d24c62e1f310a98bac2e784f15e1a6cad24c405ae3b150", func := "loop.example/g03306/laws.FnExactVotesOk", spec := "fnExactVotesOk", apart := false }
def FnExactVotesOkSaid : Prop := fnExactVotesOkRow.holds Try.pinned (OpenSpec.ofChange fnExactVotesOkSpec)

/-- ITS FALSE NEIGHBOUR: 'it returns false'. Refute it at one input. -/
def fnExactVotesOkWrong : ChangeSpec := { name := "fnExactVotesOk", fn := fun _ => fun
  | [d] => { results := [.lit (.bool false)], args := [d] }
  | _ => none }
def FnExactVotesOkWrongFalsely : Prop := fnExactVotesOkRow.holds Try.pinned (OpenSpec.ofChange fnExactVotesOkWrong)

/-- 'laws.FnExactLeastWidth': WHATEVER THE INPUT: true; the input reads as it did. -/
def fnExactLeastWidthSpec : ChangeSpec := { name := "fnExactLeastWidth", fn := fun _ => fun
  | [d1, d2] => { results := [.lit (.bool true)], args := [d1, d2] }
  | _ => none }
def fnExactLeastWidthRow : OpenClaim := { program := "ytghjjaijmlkbdaa", sum := "980acaccea46c36054d24c62e1f310a98bac2e784f15e1a6cad24c405ae3b150", func := "loop.example/g03306/laws.FnExactLeastWidth", spec := "fnExactLeastWidth", apart := false }
def FnExactLeastWidthSaid : Prop := fnExactLeastWidthRow.holds Try.pinned (OpenSpec.ofChange fnExactLeastWidthSpec)

/-- ITS FALSE NEIGHBOUR: 'it returns false'. Refute it at one input. -/
def fnExactLeastWidthWrong : ChangeSpec := { name := "fnExactLeastWidth", fn := fun _ => fun
  | [d1, d2] => { results := [.lit (.bool false)], args := [d1, d2] }
  | _ => none }
def FnExactLeastWidthWrongFalsely : Prop := fnExactLeastWidthRow.holds Try.pinned (OpenSpec.ofChange fnExactLeastWidthWrong)

/-- 'laws.FnExactCenterLine': WHATEVER THE INPUT: true; the input reads as it did. -/
def fnExactCenterLineSpec : ChangeSpec := { name := "fnExactCenterLine", fn := fun _ => fun
  | [d1, d2] => { results := [.lit (.bool true)], args := [d1, d2] }
  | _ => none }
def fnExactCenterLineRow : OpenClaim := { program := "ytghjjaijmlkbdaa", sum := "980acaccea46c36054d24c62e1f310a98bac2e784f15e1a6cad24c405ae3b150", func := "loop.example/g03306/laws.FnExactCenterLine", spec := "fnExactCenterLine", inPlace := ["internal/abi.NoEscape", "internal/bytealg.MakeNoZero"], apart := false }
def FnExactCenterLineSaid : Prop := fnExactCenterLineRow.holds Try.pinned (OpenSpec.ofChange fnExactCenterLineSpec)

/-- ITS FALSE NEIGHBOUR: 'it returns false'. Refute it at one input. -/
def fnExactCenterLineWrong : ChangeSpec := { name := "fnExactCenterLine", fn := fun _ => fun
  | [d1, d2] => { results := [.lit (.bool false)], args := [d1, d2] }
  | _ => none }
def FnExactCenterLineWrongFalsely : Prop := fnExactCenterLineRow.holds Try.pinned (OpenSpec.ofChange fnExactCenterLineWrong)

/- THE SECOND FORM. 'bulk': how many values and letters a reading holds, each counted each time it is reached (what is shared counts as often as it is met; a slice's spare places count too). A statement '..UptoSaid' is the law's where the arguments, and the package variables that the reading takes, are together of bulk at most 1048576: NARROWER than '..Said'. Prove '..Said' where nothing that the law and all that it calls make is longer than what came in: it says more and counts as full. Else prove '..UptoSaid'. A law counts once. -/
mutual
def uptoBulk {H : Type} : DataW H → Nat
  | .lit (.string bytes) => bytes.length + 1
  | .lit _ => 1
  | .nil => 1
  | .ptr d => uptoBulk d + 1
  | .slice elems spare => uptoBulkAll elems + uptoBulkAll spare + 1
  | .agg parts => uptoBulkAll parts + 1
  | .iface _ d => uptoBulk d + 1
  | .map entries => uptoBulkEntries entries + 1
  | .held _ => 1
def uptoBulkAll {H : Type} : List (DataW H) → Nat
  | [] => 0
  | d :: r => uptoBulk d + uptoBulkAll r
def uptoBulkEntries {H : Type} : List (Lit × DataW H) → Nat
  | [] => 0
  | x :: r => uptoBulkEntry x + uptoBulkEntries r
def uptoBulkEntry {H : Type} : Lit × DataW H → Nat
  | (.string bytes, d) => bytes.length + uptoBulk d + 1
  | (_, d) => uptoBulk d + 1
 end
def uptoSmall : (H : Type) → List (DataW H) → Bool := fun _ ds => decide (uptoBulkAll ds ≤ 1048576)
def OpenSpec.upto (s : _root_.Go.ChangeSpec) : _root_.Go.OpenSpec := { _root_.Go.OpenSpec.ofChange s with cond := some uptoSmall }

/-- 'laws.FnExactPullThread', WHERE WHAT IT READS IS OF BULK AT MOST 1048576: true; the input reads as it did. -/
def fnExactPullThreadUptoRow : OpenClaim := { program := "ytghjjaijmlkbdaa", sum := "980acaccea46c36054d24c62e1f310a98bac2e784f15e1a6cad24c405ae3b150", func := "loop.example/g03306/laws.FnExactPullThread", spec := "fnExactPullThread", apart := false, narrowed := true }
def FnExactPullThreadUptoSaid : Prop := fnExactPullThreadUptoRow.holds Try.pinned (OpenSpec.upto fnExactPullThreadSpec)

/-- 'laws.FnExactActOk', WHERE WHAT IT READS IS OF BULK AT MOST 1048576: true; the input reads as it did. -/
def fnExactActOkUptoRow : OpenClaim := { program := "ytghjjaijmlkbdaa", sum := "980acaccea46c36054d24c62e1f310a98bac2e784f15e1a6cad24c405ae3b150", func := "loop.example/g03306/laws.FnExactActOk", spec := "fnExactActOk", apart := false, narrowed := true }
def FnExactActOkUptoSaid : Prop := fnExactActOkUptoRow.holds Try.pinned (OpenSpec.upto fnExactActOkSpec)

/-- 'laws.FnExactLongestLine', WHERE WHAT IT READS IS OF BULK AT MOST 1048576: true; the input reads as it did. -/
def fnExactLongestLineUptoRow : OpenClaim := { program := "ytghjjaijmlkbdaa", sum := "980acaccea46c36054d24c62e1f310a98bac2e784f15e1a6cad24c405ae3b150", func := "loop.example/g03306/laws.FnExactLongestLine", spec := "fnExactLongestLine", apart := false, narrowed := true }
def FnExactLongestLineUptoSaid : Prop := fnExactLongestLineUptoRow.holds Try.pinned (OpenSpec.upto fnExactLongestLineSpec)

/-- 'laws.FnExactWeakestThread', WHERE WHAT IT READS IS OF BULK AT MOST 1048576: true; the input reads as it did. -/
def fnExactWeakestThreadUptoRow : OpenClaim := { program := "ytghjjaijmlkbdaa", sum := "980acaccea46c36054d24c62e1f310a98bac2e784f15e1a6cad24c405ae3b150", func := "loop.example/g03306/laws.FnExactWeakestThread", spec := "fnExactWeakestThread", apart := false, narrowed := true }
def FnExactWeakestThreadUptoSaid : Prop := fnExactWeakestThreadUptoRow.holds Try.pinned (OpenSpec.upto fnExactWeakestThreadSpec)

/-- 'laws.FnThreads', WHERE WHAT IT READS IS OF BULK AT MOST 1048576: true; the input reads as it did. -/
def fnThreadsUptoRow : OpenClaim := { program := "ytghjjaijmlkbdaa", sum := "980acaccea46c36054d24c62e1f310a98bac2e784f15e1a6cad24c405ae3b150", func := "loop.example/g03306/laws.FnThreads", spec := "fnThreads", apart := false, narrowed := true }
def FnThreadsUptoSaid : Prop := fnThreadsUptoRow.holds Try.pinned (OpenSpec.upto fnThreadsSpec)

/-- 'laws.FnExactFewestLines', WHERE WHAT IT READS IS OF BULK AT MOST 1048576: true; the input reads as it did. -/
def fnExactFewestLinesUptoRow : OpenClaim := { program := "ytghjjaijmlkbdaa", sum := "980acaccea46c36054d24c62e1f310a98bac2e784f15e1a6cad24c405ae3b150", func := "loop.example/g03306/laws.FnExactFewestLines", spec := "fnExactFewestLines", apart := false, narrowed := true }
def FnExactFewestLinesUptoSaid : Prop := fnExactFewestLinesUptoRow.holds Try.pinned (OpenSpec.upto fnExactFewestLinesSpec)

/-- 'laws.FnExactRenewed', WHERE WHAT IT READS IS OF BULK AT MOST 1048576: true; the input reads as it did. -/
def fnExactRenewedUptoRow : OpenClaim := { program := "ytghjjaijmlkbdaa", sum := "980acaccea46c36054d24c62e1f310a98bac2e784f15e1a6cad24c405ae3b150", func := "loop.example/g03306/laws.FnExactRenewed", spec := "fnExactRenewed", apart := false, narrowed := true }
def FnExactRenewedUptoSaid : Prop := fnExactRenewedUptoRow.holds Try.pinned (OpenSpec.upto fnExactRenewedSpec)

/-- 'laws.FnExactPosterLines', WHERE WHAT IT READS IS OF BULK AT MOST 1048576: true; the input reads as it did. -/
def fnExactPosterLinesUptoRow : OpenClaim := { program := "ytghjjaijmlkbdaa", sum := "980acaccea46c36054d24c62e1f310a98bac2e784f15e1a6cad24c405ae3b150", func := "loop.example/g03306/laws.FnExactPosterLines", spec := "fnExactPosterLines", apart := false, narrowed := true }
def FnExactPosterLinesUptoSaid : Prop := fnExactPosterLinesUptoRow.holds Try.pinned (OpenSpec.upto fnExactPosterLinesSpec)

/-- 'laws.FnExactVotesOk', WHERE WHAT IT READS IS OF BULK AT MOST 1048576: true; the input reads as it did. -/
def fnExactVotesOkUptoRow : OpenClaim := { program := "ytghjjaijmlkbdaa", sum := "980acaccea46c36054d24c62e1f310a98bac2e784f15e1a6cad24c405ae3b150", func := "loop.example/g03306/laws.FnExactVotesOk", spec := "fnExactVotesOk", apart := false, narrowed := true }
def FnExactVotesOkUptoSaid : Prop := fnExactVotesOkUptoRow.holds Try.pinned (OpenSpec.upto fnExactVotesOkSpec)

/-- 'laws.FnExactLeastWidth', WHERE WHAT IT READS IS OF BULK AT MOST 1048576: true; the input reads as it did. -/
def fnExactLeastWidthUptoRow : OpenClaim := { program := "ytghjjaijmlkbdaa", sum := "980acaccea46c36054d24c62e1f310a98bac2e784f15e1a6cad24c405ae3b150", func := "loop.example/g03306/laws.FnExactLeastWidth", spec := "fnExactLeastWidth", apart := false, narrowed := true }
def FnExactLeastWidthUptoSaid : Prop := fnExactLeastWidthUptoRow.holds Try.pinned (OpenSpec.upto fnExactLeastWidthSpec)

/-- 'laws.FnExactCenterLine', WHERE WHAT IT READS IS OF BULK AT MOST 1048576: true; the input reads as it did. -/
def fnExactCenterLineUptoRow : OpenClaim := { program := "ytghjjaijmlkbdaa", sum := "980acaccea46c36054d24c62e1f310a98bac2e784f15e1a6cad24c405ae3b150", func := "loop.example/g03306/laws.FnExactCenterLine", spec := "fnExactCenterLine", inPlace := ["internal/abi.NoEscape", "internal/bytealg.MakeNoZero"], apart := false, narrowed := true }
def FnExactCenterLineUptoSaid : Prop := fnExactCenterLineUptoRow.holds Try.pinned (OpenSpec.upto fnExactCenterLineSpec)

end Rows
end Go.Proofs.Ytghjjaijmlkbdaa
