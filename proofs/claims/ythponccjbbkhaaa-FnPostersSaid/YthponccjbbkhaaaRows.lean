/-
  No cell of these rows narrows 'for every input' (looked for: loops, veiled, ifaces, maps, wideKeys, modest, calm, conditions, laid).
  DERIVED. THE GIVEN ROWS OF THIS SEAT. 12 by the template 'for every input the law returns true; each argument reads behind the call as it read before'; 0 by the template 'total and deterministic' (their statements: YthponccjbbkhaaaTotals.lean).
  GIVEN WITH THE SEED: the statements are not yours to turn. If you find one false, say at which input.
  Laid BY PROGRAM, IN A SANDBOX (cutbox-rows.mjs): the forced cells as the released guide's own fill.sh prints them over the translation 78fc3dead2fb97c1… (all of the seat's roots in one cut). By AI agents, Wed Nov 11 2026. No macro, syntax, notation, axiom, sorry.
-/
import Derived.Test.YthponccjbbkhaaaChecked
import GoSem.Claim
import GoSem.ClaimJoined
import GoSem.ClaimMapViews
import Derived.JoinedTies
import Derived.KernelRfl
namespace Go.Proofs.Ythponccjbbkhaaa
/- THE CELL 'sum', in the pinned program and in every row, IS THE sha256 OF THE DUMP (.gsa) THAT YthponccjbbkhaaaProg.lean LOADS. Nothing in Lean hashes anything: it is a label: what it is worth is what the hold of that sum in a sandbox is worth. -/
noncomputable def Try.pinned : Pinned := { name := "ythponccjbbkhaaa", sum := "78fc3dead2fb97c1f7d20414768eec7ec74682e653409fb18494ef9b509d8612", checked := Try.checked }
namespace Rows
def none {H : Type} : Left H := { results := [], args := [] }

/-- 'laws.FnControls': WHATEVER THE INPUT: true; the input reads as it did. -/
def fnControlsSpec : ChangeSpec := { name := "fnControls", fn := fun _ => fun
  | [d] => { results := [.lit (.bool true)], args := [d] }
  | _ => none }
def fnControlsRow : OpenClaim := { program := "ythponccjbbkhaaa", sum := "78fc3dead2fb97c1f7d20414768eec7ec74682e653409fb18494ef9b509d8612", func := "loop.example/g03306/laws.FnControls", spec := "fnControls", apart := false }
def FnControlsSaid : Prop := fnControlsRow.holds Try.pinned (OpenSpec.ofChange fnControlsSpec)

/-- ITS FALSE NEIGHBOUR: 'it returns false'. Refute it at one input. -/
def fnControlsWrong : ChangeSpec := { name := "fnControls", fn := fun _ => fun
  | [d] => { results := [.lit (.bool false)], args := [d] }
  | _ => none }
def FnControlsWrongFalsely : Prop := fnControlsRow.holds Try.pinned (OpenSpec.ofChange fnControlsWrong)

/-- 'laws.FnExactPrefers': WHATEVER THE INPUT: true; the input reads as it did. -/
def fnExactPrefersSpec : ChangeSpec := { name := "fnExactPrefers", fn := fun _ => fun
  | [d1, d2, d3] => { results := [.lit (.bool true)], args := [d1, d2, d3] }
  | _ => none }
def fnExactPrefersRow : OpenClaim := { program := "ythponccjbbkhaaa", sum := "78fc3dead2fb97c1f7d20414768eec7ec74682e653409fb18494ef9b509d8612", func := "loop.example/g03306/laws.FnExactPrefers", spec := "fnExactPrefers", apart := false }
def FnExactPrefersSaid : Prop := fnExactPrefersRow.holds Try.pinned (OpenSpec.ofChange fnExactPrefersSpec)

/-- ITS FALSE NEIGHBOUR: 'it returns false'. Refute it at one input. -/
def fnExactPrefersWrong : ChangeSpec := { name := "fnExactPrefers", fn := fun _ => fun
  | [d1, d2, d3] => { results := [.lit (.bool false)], args := [d1, d2, d3] }
  | _ => none }
def FnExactPrefersWrongFalsely : Prop := fnExactPrefersRow.holds Try.pinned (OpenSpec.ofChange fnExactPrefersWrong)

/-- 'laws.FnExactFirstByPoints': WHATEVER THE INPUT: true; the input reads as it did. -/
def fnExactFirstByPointsSpec : ChangeSpec := { name := "fnExactFirstByPoints", fn := fun _ => fun
  | [d] => { results := [.lit (.bool true)], args := [d] }
  | _ => none }
def fnExactFirstByPointsRow : OpenClaim := { program := "ythponccjbbkhaaa", sum := "78fc3dead2fb97c1f7d20414768eec7ec74682e653409fb18494ef9b509d8612", func := "loop.example/g03306/laws.FnExactFirstByPoints", spec := "fnExactFirstByPoints", apart := false }
def FnExactFirstByPointsSaid : Prop := fnExactFirstByPointsRow.holds Try.pinned (OpenSpec.ofChange fnExactFirstByPointsSpec)

/-- ITS FALSE NEIGHBOUR: 'it returns false'. Refute it at one input. -/
def fnExactFirstByPointsWrong : ChangeSpec := { name := "fnExactFirstByPoints", fn := fun _ => fun
  | [d] => { results := [.lit (.bool false)], args := [d] }
  | _ => none }
def FnExactFirstByPointsWrongFalsely : Prop := fnExactFirstByPointsRow.holds Try.pinned (OpenSpec.ofChange fnExactFirstByPointsWrong)

/-- 'laws.FnExactPointsOf': WHATEVER THE INPUT: true; the input reads as it did. -/
def fnExactPointsOfSpec : ChangeSpec := { name := "fnExactPointsOf", fn := fun _ => fun
  | [d] => { results := [.lit (.bool true)], args := [d] }
  | _ => none }
def fnExactPointsOfRow : OpenClaim := { program := "ythponccjbbkhaaa", sum := "78fc3dead2fb97c1f7d20414768eec7ec74682e653409fb18494ef9b509d8612", func := "loop.example/g03306/laws.FnExactPointsOf", spec := "fnExactPointsOf", apart := false }
def FnExactPointsOfSaid : Prop := fnExactPointsOfRow.holds Try.pinned (OpenSpec.ofChange fnExactPointsOfSpec)

/-- ITS FALSE NEIGHBOUR: 'it returns false'. Refute it at one input. -/
def fnExactPointsOfWrong : ChangeSpec := { name := "fnExactPointsOf", fn := fun _ => fun
  | [d] => { results := [.lit (.bool false)], args := [d] }
  | _ => none }
def FnExactPointsOfWrongFalsely : Prop := fnExactPointsOfRow.holds Try.pinned (OpenSpec.ofChange fnExactPointsOfWrong)

/-- 'laws.FnVotes': WHATEVER THE INPUT: true; the input reads as it did. -/
def fnVotesSpec : ChangeSpec := { name := "fnVotes", fn := fun _ => fun
  | [d] => { results := [.lit (.bool true)], args := [d] }
  | _ => none }
def fnVotesRow : OpenClaim := { program := "ythponccjbbkhaaa", sum := "78fc3dead2fb97c1f7d20414768eec7ec74682e653409fb18494ef9b509d8612", func := "loop.example/g03306/laws.FnVotes", spec := "fnVotes", apart := false }
def FnVotesSaid : Prop := fnVotesRow.holds Try.pinned (OpenSpec.ofChange fnVotesSpec)

/-- ITS FALSE NEIGHBOUR: 'it returns false'. Refute it at one input. -/
def fnVotesWrong : ChangeSpec := { name := "fnVotes", fn := fun _ => fun
  | [d] => { results := [.lit (.bool false)], args := [d] }
  | _ => none }
def FnVotesWrongFalsely : Prop := fnVotesRow.holds Try.pinned (OpenSpec.ofChange fnVotesWrong)

/-- 'laws.FnExactLiftControl': WHATEVER THE INPUT: true; the input reads as it did. -/
def fnExactLiftControlSpec : ChangeSpec := { name := "fnExactLiftControl", fn := fun _ => fun
  | [d1, d2] => { results := [.lit (.bool true)], args := [d1, d2] }
  | _ => none }
def fnExactLiftControlRow : OpenClaim := { program := "ythponccjbbkhaaa", sum := "78fc3dead2fb97c1f7d20414768eec7ec74682e653409fb18494ef9b509d8612", func := "loop.example/g03306/laws.FnExactLiftControl", spec := "fnExactLiftControl", apart := false }
def FnExactLiftControlSaid : Prop := fnExactLiftControlRow.holds Try.pinned (OpenSpec.ofChange fnExactLiftControlSpec)

/-- ITS FALSE NEIGHBOUR: 'it returns false'. Refute it at one input. -/
def fnExactLiftControlWrong : ChangeSpec := { name := "fnExactLiftControl", fn := fun _ => fun
  | [d1, d2] => { results := [.lit (.bool false)], args := [d1, d2] }
  | _ => none }
def FnExactLiftControlWrongFalsely : Prop := fnExactLiftControlRow.holds Try.pinned (OpenSpec.ofChange fnExactLiftControlWrong)

/-- 'laws.FnBodies': WHATEVER THE INPUT: true; the input reads as it did. -/
def fnBodiesSpec : ChangeSpec := { name := "fnBodies", fn := fun _ => fun
  | [d] => { results := [.lit (.bool true)], args := [d] }
  | _ => none }
def fnBodiesRow : OpenClaim := { program := "ythponccjbbkhaaa", sum := "78fc3dead2fb97c1f7d20414768eec7ec74682e653409fb18494ef9b509d8612", func := "loop.example/g03306/laws.FnBodies", spec := "fnBodies", apart := false }
def FnBodiesSaid : Prop := fnBodiesRow.holds Try.pinned (OpenSpec.ofChange fnBodiesSpec)

/-- ITS FALSE NEIGHBOUR: 'it returns false'. Refute it at one input. -/
def fnBodiesWrong : ChangeSpec := { name := "fnBodies", fn := fun _ => fun
  | [d] => { results := [.lit (.bool false)], args := [d] }
  | _ => none }
def FnBodiesWrongFalsely : Prop := fnBodiesRow.holds Try.pinned (OpenSpec.ofChange fnBodiesWrong)

/-- 'laws.FnExactFirstByPairs': WHATEVER THE INPUT: true; the input reads as it did. -/
def fnExactFirstByPairsSpec : ChangeSpec := { name := "fnExactFirstByPairs", fn := fun _ => fun
  | [d] => { results := [.lit (.bool true)], args := [d] }
  | _ => none }
def fnExactFirstByPairsRow : OpenClaim := { program := "ythponccjbbkhaaa", sum := "78fc3dead2fb97c1f7d20414768eec7ec74682e653409fb18494ef9b509d8612", func := "loop.example/g03306/laws.FnExactFirstByPairs", spec := "fnExactFirstByPairs", apart := false }
def FnExactFirstByPairsSaid : Prop := fnExactFirstByPairsRow.holds Try.pinned (OpenSpec.ofChange fnExactFirstByPairsSpec)

/-- ITS FALSE NEIGHBOUR: 'it returns false'. Refute it at one input. -/
def fnExactFirstByPairsWrong : ChangeSpec := { name := "fnExactFirstByPairs", fn := fun _ => fun
  | [d] => { results := [.lit (.bool false)], args := [d] }
  | _ => none }
def FnExactFirstByPairsWrongFalsely : Prop := fnExactFirstByPairsRow.holds Try.pinned (OpenSpec.ofChange fnExactFirstByPairsWrong)

/-- 'laws.FnExactHasCircle': WHATEVER THE INPUT: true; the input reads as it did. -/
def fnExactHasCircleSpec : ChangeSpec := { name := "fnExactHasCircle", fn := fun _ => fun
  | [d] => { results := [.lit (.bool true)], args := [d] }
  | _ => none }
def fnExactHasCircleRow : OpenClaim := { program := "ythponccjbbkhaaa", sum := "78fc3dead2fb97c1f7d20414768eec7ec74682e653409fb18494ef9b509d8612", func := "loop.example/g03306/laws.FnExactHasCircle", spec := "fnExactHasCircle", apart := false }
def FnExactHasCircleSaid : Prop := fnExactHasCircleRow.holds Try.pinned (OpenSpec.ofChange fnExactHasCircleSpec)

/-- ITS FALSE NEIGHBOUR: 'it returns false'. Refute it at one input. -/
def fnExactHasCircleWrong : ChangeSpec := { name := "fnExactHasCircle", fn := fun _ => fun
  | [d] => { results := [.lit (.bool false)], args := [d] }
  | _ => none }
def FnExactHasCircleWrongFalsely : Prop := fnExactHasCircleRow.holds Try.pinned (OpenSpec.ofChange fnExactHasCircleWrong)

/-- 'laws.FnExactAddLimb': WHATEVER THE INPUT: true; the input reads as it did. -/
def fnExactAddLimbSpec : ChangeSpec := { name := "fnExactAddLimb", fn := fun _ => fun
  | [d1, d2, d3] => { results := [.lit (.bool true)], args := [d1, d2, d3] }
  | _ => none }
def fnExactAddLimbRow : OpenClaim := { program := "ythponccjbbkhaaa", sum := "78fc3dead2fb97c1f7d20414768eec7ec74682e653409fb18494ef9b509d8612", func := "loop.example/g03306/laws.FnExactAddLimb", spec := "fnExactAddLimb", apart := false }
def FnExactAddLimbSaid : Prop := fnExactAddLimbRow.holds Try.pinned (OpenSpec.ofChange fnExactAddLimbSpec)

/-- ITS FALSE NEIGHBOUR: 'it returns false'. Refute it at one input. -/
def fnExactAddLimbWrong : ChangeSpec := { name := "fnExactAddLimb", fn := fun _ => fun
  | [d1, d2, d3] => { results := [.lit (.bool false)], args := [d1, d2, d3] }
  | _ => none }
def FnExactAddLimbWrongFalsely : Prop := fnExactAddLimbRow.holds Try.pinned (OpenSpec.ofChange fnExactAddLimbWrong)

/-- 'laws.FnExactTiltArm': WHATEVER THE INPUT: true; the input reads as it did. -/
def fnExactTiltArmSpec : ChangeSpec := { name := "fnExactTiltArm", fn := fun _ => fun
  | [d1, d2, d3] => { results := [.lit (.bool true)], args := [d1, d2, d3] }
  | _ => none }
def fnExactTiltArmRow : OpenClaim := { program := "ythponccjbbkhaaa", sum := "78fc3dead2fb97c1f7d20414768eec7ec74682e653409fb18494ef9b509d8612", func := "loop.example/g03306/laws.FnExactTiltArm", spec := "fnExactTiltArm", apart := false }
def FnExactTiltArmSaid : Prop := fnExactTiltArmRow.holds Try.pinned (OpenSpec.ofChange fnExactTiltArmSpec)

/-- ITS FALSE NEIGHBOUR: 'it returns false'. Refute it at one input. -/
def fnExactTiltArmWrong : ChangeSpec := { name := "fnExactTiltArm", fn := fun _ => fun
  | [d1, d2, d3] => { results := [.lit (.bool false)], args := [d1, d2, d3] }
  | _ => none }
def FnExactTiltArmWrongFalsely : Prop := fnExactTiltArmRow.holds Try.pinned (OpenSpec.ofChange fnExactTiltArmWrong)

/-- 'laws.FnPosters': WHATEVER THE INPUT: true; the input reads as it did. -/
def fnPostersSpec : ChangeSpec := { name := "fnPosters", fn := fun _ => fun
  | [d] => { results := [.lit (.bool true)], args := [d] }
  | _ => none }
def fnPostersRow : OpenClaim := { program := "ythponccjbbkhaaa", sum := "78fc3dead2fb97c1f7d20414768eec7ec74682e653409fb18494ef9b509d8612", func := "loop.example/g03306/laws.FnPosters", spec := "fnPosters", inPlace := ["internal/abi.NoEscape", "internal/bytealg.MakeNoZero"], apart := false }
def FnPostersSaid : Prop := fnPostersRow.holds Try.pinned (OpenSpec.ofChange fnPostersSpec)

/-- ITS FALSE NEIGHBOUR: 'it returns false'. Refute it at one input. -/
def fnPostersWrong : ChangeSpec := { name := "fnPosters", fn := fun _ => fun
  | [d] => { results := [.lit (.bool false)], args := [d] }
  | _ => none }
def FnPostersWrongFalsely : Prop := fnPostersRow.holds Try.pinned (OpenSpec.ofChange fnPostersWrong)

/- THE SECOND FORM. 'bulk': how many values and letters a reading holds, each counted each time it is reached (what is shared counts as often as it is met; a slice's spare places count too). A statement '..UptoSaid' is the law's where the arguments, and the package variables that the reading takes, are together of bulk at most 1048576: NARROWER than '..Said'. Prove '..Said' where nothing that the law and all that it calls make is longer than what came in: it says more and counts as full. Else prove '..UptoSaid'. A law counts once. -/
mutual
def uptoBulk {H : Type} : DataW H → Nat
  | .lit (.string bytes) => bytes.length + 1
  | .lit _ => 1
  | .nil => 1
  | .ptr d => uptoBulk d + 1
  | .slice elems spare => uptoBulkAll elems + uptoBulkAll spare + 1
  | .agg parts => uptoBulkAll parts + 1
  | .iface _ d => uptoBulk d + 1
  | .map entries => uptoBulkEntries entries + 1
  | .held _ => 1
def uptoBulkAll {H : Type} : List (DataW H) → Nat
  | [] => 0
  | d :: r => uptoBulk d + uptoBulkAll r
def uptoBulkEntries {H : Type} : List (Lit × DataW H) → Nat
  | [] => 0
  | x :: r => uptoBulkEntry x + uptoBulkEntries r
def uptoBulkEntry {H : Type} : Lit × DataW H → Nat
  | (.string bytes, d) => bytes.length + uptoBulk d + 1
  | (_, d) => uptoBulk d + 1
 end
def uptoSmall : (H : Type) → List (DataW H) → Bool := fun _ ds => decide (uptoBulkAll ds ≤ 1048576)
def OpenSpec.upto (s : _root_.Go.ChangeSpec) : _root_.Go.OpenSpec := { _root_.Go.OpenSpec.ofChange s with cond := some uptoSmall }

/-- 'laws.FnControls', WHERE WHAT IT READS IS OF BULK AT MOST 1048576: true; the input reads as it did. -/
def fnControlsUptoRow : OpenClaim := { program := "ythponccjbbkhaaa", sum := "78fc3dead2fb97c1f7d20414768eec7ec74682e653409fb18494ef9b509d8612", func := "loop.example/g03306/laws.FnControls", spec := "fnControls", apart := false, narrowed := true }
def FnControlsUptoSaid : Prop := fnControlsUptoRow.holds Try.pinned (OpenSpec.upto fnControlsSpec)

/-- 'laws.FnExactPrefers', WHERE WHAT IT READS IS OF BULK AT MOST 1048576: true; the input reads as it did. -/
def fnExactPrefersUptoRow : OpenClaim := { program := "ythponccjbbkhaaa", sum := "78fc3dead2fb97c1f7d20414768eec7ec74682e653409fb18494ef9b509d8612", func := "loop.example/g03306/laws.FnExactPrefers", spec := "fnExactPrefers", apart := false, narrowed := true }
def FnExactPrefersUptoSaid : Prop := fnExactPrefersUptoRow.holds Try.pinned (OpenSpec.upto fnExactPrefersSpec)

/-- 'laws.FnExactFirstByPoints', WHERE WHAT IT READS IS OF BULK AT MOST 1048576: true; the input reads as it did. -/
def fnExactFirstByPointsUptoRow : OpenClaim := { program := "ythponccjbbkhaaa", sum := "78fc3dead2fb97c1f7d20414768eec7ec74682e653409fb18494ef9b509d8612", func := "loop.example/g03306/laws.FnExactFirstByPoints", spec := "fnExactFirstByPoints", apart := false, narrowed := true }
def FnExactFirstByPointsUptoSaid : Prop := fnExactFirstByPointsUptoRow.holds Try.pinned (OpenSpec.upto fnExactFirstByPointsSpec)

/-- 'laws.FnExactPointsOf', WHERE WHAT IT READS IS OF BULK AT MOST 1048576: true; the input reads as it did. -/
def fnExactPointsOfUptoRow : OpenClaim := { program := "ythponccjbbkhaaa", sum := "78fc3dead2fb97c1f7d20414768eec7ec74682e653409fb18494ef9b509d8612", func := "loop.example/g03306/laws.FnExactPointsOf", spec := "fnExactPointsOf", apart := false, narrowed := true }
def FnExactPointsOfUptoSaid : Prop := fnExactPointsOfUptoRow.holds Try.pinned (OpenSpec.upto fnExactPointsOfSpec)

/-- 'laws.FnVotes', WHERE WHAT IT READS IS OF BULK AT MOST 1048576: true; the input reads as it did. -/
def fnVotesUptoRow : OpenClaim := { program := "ythponccjbbkhaaa", sum := "78fc3dead2fb97c1f7d20414768eec7ec74682e653409fb18494ef9b509d8612", func := "loop.example/g03306/laws.FnVotes", spec := "fnVotes", apart := false, narrowed := true }
def FnVotesUptoSaid : Prop := fnVotesUptoRow.holds Try.pinned (OpenSpec.upto fnVotesSpec)

/-- 'laws.FnExactLiftControl', WHERE WHAT IT READS IS OF BULK AT MOST 1048576: true; the input reads as it did. -/
def fnExactLiftControlUptoRow : OpenClaim := { program := "ythponccjbbkhaaa", sum := "78fc3dead2fb97c1f7d20414768eec7ec74682e653409fb18494ef9b509d8612", func := "loop.example/g03306/laws.FnExactLiftControl", spec := "fnExactLiftControl", apart := false, narrowed := true }
def FnExactLiftControlUptoSaid : Prop := fnExactLiftControlUptoRow.holds Try.pinned (OpenSpec.upto fnExactLiftControlSpec)

/-- 'laws.FnBodies', WHERE WHAT IT READS IS OF BULK AT MOST 1048576: true; the input reads as it did. -/
def fnBodiesUptoRow : OpenClaim := { program := "ythponccjbbkhaaa", sum := "78fc3dead2fb97c1f7d20414768eec7ec74682e653409fb18494ef9b509d8612", func := "loop.example/g03306/laws.FnBodies", spec := "fnBodies", apart := false, narrowed := true }
def FnBodiesUptoSaid : Prop := fnBodiesUptoRow.holds Try.pinned (OpenSpec.upto fnBodiesSpec)

/-- 'laws.FnExactFirstByPairs', WHERE WHAT IT READS IS OF BULK AT MOST 1048576: true; the input reads as it did. -/
def fnExactFirstByPairsUptoRow : OpenClaim := { program := "ythponccjbbkhaaa", sum := "78fc3dead2fb97c1f7d20414768eec7ec74682e653409fb18494ef9b509d8612", func := "loop.example/g03306/laws.FnExactFirstByPairs", spec := "fnExactFirstByPairs", apart := false, narrowed := true }
def FnExactFirstByPairsUptoSaid : Prop := fnExactFirstByPairsUptoRow.holds Try.pinned (OpenSpec.upto fnExactFirstByPairsSpec)

/-- 'laws.FnExactHasCircle', WHERE WHAT IT READS IS OF BULK AT MOST 1048576: true; the input reads as it did. -/
def fnExactHasCircleUptoRow : OpenClaim := { program := "ythponccjbbkhaaa", sum := "78fc3dead2fb97c1f7d20414768eec7ec74682e653409fb18494ef9b509d8612", func := "loop.example/g03306/laws.FnExactHasCircle", spec := "fnExactHasCircle", apart := false, narrowed := true }
def FnExactHasCircleUptoSaid : Prop := fnExactHasCircleUptoRow.holds Try.pinned (OpenSpec.upto fnExactHasCircleSpec)

/-- 'laws.FnExactAddLimb', WHERE WHAT IT READS IS OF BULK AT MOST 1048576: true; the input reads as it did. -/
def fnExactAddLimbUptoRow : OpenClaim := { program := "ythponccjbbkhaaa", sum := "78fc3dead2fb97c1f7d20414768eec7ec74682e653409fb18494ef9b509d8612", func := "loop.example/g03306/laws.FnExactAddLimb", spec := "fnExactAddLimb", apart := false, narrowed := true }
def FnExactAddLimbUptoSaid : Prop := fnExactAddLimbUptoRow.holds Try.pinned (OpenSpec.upto fnExactAddLimbSpec)

/-- 'laws.FnExactTiltArm', WHERE WHAT IT READS IS OF BULK AT MOST 1048576: true; the input reads as it did. -/
def fnExactTiltArmUptoRow : OpenClaim := { program := "ythponccjbbkhaaa", sum := "78fc3dead2fb97c1f7d20414768eec7ec74682e653409fb18494ef9b509d8612", func := "loop.example/g03306/laws.FnExactTiltArm", spec := "fnExactTiltArm", apart := false, narrowed := true }
def FnExactTiltArmUptoSaid : Prop := fnExactTiltArmUptoRow.holds Try.pinned (OpenSpec.upto fnExactTiltArmSpec)

/-- 'laws.FnPosters', WHERE WHAT IT READS IS OF BULK AT MOST 1048576: true; the input reads as it did. -/
def fnPostersUptoRow : OpenClaim := { program := "ythponccjbbkhaaa", sum := "78fc3dead2fb97c1f7d20414768eec7ec74682e653409fb18494ef9b509d8612", func := "loop.example/g03306/laws.FnPosters", spec := "fnPosters", inPlace := ["internal/abi.NoEscape", "internal/bytealg.MakeNoZero"], apart := false, narrowed := true }
def FnPostersUptoSaid : Prop := fnPostersUptoRow.holds Try.pinned (OpenSpec.upto fnPostersSpec)

end Rows
end Go.Proofs.Ythponccjbbkhaaa
