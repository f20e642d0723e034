/-
  No cell of these rows narrows 'for every input' (looked for: loops, veiled, ifaces, maps, wideKeys, modest, calm, conditions, laid).
  DERIVED. THE GIVEN ROWS OF THIS SEAT. 6 by the template 'for every input the law returns true; each argument reads behind the call as it read before'; 0 by the template 'total and deterministic' (their statements: YtjbhlbcjljdjmaaTotals.lean).
  GIVEN WITH THE SEED: the statements are not yours to turn. If you find one false, say at which input.
  Laid BY PROGRAM, IN A SANDBOX (cutbox-rows.mjs): the forced cells as the released guide's own fill.sh prints them over the translation b5217cf7cfb0236f… (all of the seat's roots in one cut). By AI agents, Wed Nov 11 2026. No macro, syntax, notation, axiom, sorry.
-/
import Derived.Test.YtjbhlbcjljdjmaaChecked
import GoSem.Claim
import GoSem.ClaimJoined
import GoSem.ClaimMapViews
import Derived.JoinedTies
import Derived.KernelRfl
namespace Go.Proofs.Ytjbhlbcjljdjmaa
/- THE CELL 'sum', in the pinned program and in every row, IS THE sha256 OF THE DUMP (.gsa) THAT YtjbhlbcjljdjmaaProg.lean LOADS. Nothing in Lean hashes anything: it is a label: what it is worth is what the hold of that sum in a sandbox is worth. -/
noncomputable def Try.pinned : Pinned := { name := "ytjbhlbcjljdjmaa", sum := "b5217cf7cfb0236fe31dcc731431e71cee2d022d691df6280e73dd553a792204", checked := Try.checked }
namespace Rows
def none {H : Type} : Left H := { results := [], args := [] }

/-- 'laws.FnBodies': WHATEVER THE INPUT: true; the input reads as it did. -/
def fnBodiesSpec : ChangeSpec := { name := "fnBodies", fn := fun _ => fun
  | [d] => { results := [.lit (.bool true)], args := [d] }
  | _ => none }
def fnBodiesRow : OpenClaim := { program := "ytjbhlbcjljdjmaa", sum := "b5217cf7cfb0236fe31dcc731431e71cee2d022d691df6280e73dd553a792204", func := "loop.example/g03306/laws.FnBodies", spec := "fnBodies", apart := false }
def FnBodiesSaid : Prop := fnBodiesRow.holds Try.pinned (OpenSpec.ofChange fnBodiesSpec)

/-- ITS FALSE NEIGHBOUR: 'it returns false'. Refute it at one input. -/
def fnBodiesWrong : ChangeSpec := { name := "fnBodies", fn := fun _ => fun
  | [d] => { results := [.lit (.bool false)], args := [d] }
  | _ => none }
def FnBodiesWrongFalsely : Prop := fnBodiesRow.holds Try.pinned (OpenSpec.ofChange fnBodiesWrong)

/-- 'laws.FnExactWhyNot': WHATEVER THE INPUT: true; the input reads as it did. -/
def fnExactWhyNotSpec : ChangeSpec := { name := "fnExactWhyNot", fn := fun _ => fun
  | [d] => { results := [.lit (.bool true)], args := [d] }
  | _ => none }
def fnExactWhyNotRow : OpenClaim := { program := "ytjbhlbcjljdjmaa", sum := "b5217cf7cfb0236fe31dcc731431e71cee2d022d691df6280e73dd553a792204", func := "loop.example/g03306/laws.FnExactWhyNot", spec := "fnExactWhyNot", unfollowed := true, recurses := true, apart := false }
def FnExactWhyNotSaid : Prop := fnExactWhyNotRow.holds Try.pinned (OpenSpec.ofChange fnExactWhyNotSpec)

/-- ITS FALSE NEIGHBOUR: 'it returns false'. Refute it at one input. -/
def fnExactWhyNotWrong : ChangeSpec := { name := "fnExactWhyNot", fn := fun _ => fun
  | [d] => { results := [.lit (.bool false)], args := [d] }
  | _ => none }
def FnExactWhyNotWrongFalsely : Prop := fnExactWhyNotRow.holds Try.pinned (OpenSpec.ofChange fnExactWhyNotWrong)

/-- 'laws.FnExactUntwist': WHATEVER THE INPUT: true; the input reads as it did. -/
def fnExactUntwistSpec : ChangeSpec := { name := "fnExactUntwist", fn := fun _ => fun
  | [d] => { results := [.lit (.bool true)], args := [d] }
  | _ => none }
def fnExactUntwistRow : OpenClaim := { program := "ytjbhlbcjljdjmaa", sum := "b5217cf7cfb0236fe31dcc731431e71cee2d022d691df6280e73dd553a792204", func := "loop.example/g03306/laws.FnExactUntwist", spec := "fnExactUntwist", unfollowed := true, recurses := true, apart := false }
def FnExactUntwistSaid : Prop := fnExactUntwistRow.holds Try.pinned (OpenSpec.ofChange fnExactUntwistSpec)

/-- ITS FALSE NEIGHBOUR: 'it returns false'. Refute it at one input. -/
def fnExactUntwistWrong : ChangeSpec := { name := "fnExactUntwist", fn := fun _ => fun
  | [d] => { results := [.lit (.bool false)], args := [d] }
  | _ => none }
def FnExactUntwistWrongFalsely : Prop := fnExactUntwistRow.holds Try.pinned (OpenSpec.ofChange fnExactUntwistWrong)

/-- 'laws.FnExactGiveShow': WHATEVER THE INPUT: true; the input reads as it did. -/
def fnExactGiveShowSpec : ChangeSpec := { name := "fnExactGiveShow", fn := fun _ => fun
  | [d1, d2] => { results := [.lit (.bool true)], args := [d1, d2] }
  | _ => none }
def fnExactGiveShowRow : OpenClaim := { program := "ytjbhlbcjljdjmaa", sum := "b5217cf7cfb0236fe31dcc731431e71cee2d022d691df6280e73dd553a792204", func := "loop.example/g03306/laws.FnExactGiveShow", spec := "fnExactGiveShow", unfollowed := true, recurses := true, apart := false }
def FnExactGiveShowSaid : Prop := fnExactGiveShowRow.holds Try.pinned (OpenSpec.ofChange fnExactGiveShowSpec)

/-- ITS FALSE NEIGHBOUR: 'it returns false'. Refute it at one input. -/
def fnExactGiveShowWrong : ChangeSpec := { name := "fnExactGiveShow", fn := fun _ => fun
  | [d1, d2] => { results := [.lit (.bool false)], args := [d1, d2] }
  | _ => none }
def FnExactGiveShowWrongFalsely : Prop := fnExactGiveShowRow.holds Try.pinned (OpenSpec.ofChange fnExactGiveShowWrong)

/-- 'laws.FnExactPutInOrder': WHATEVER THE INPUT: true; the input reads as it did. -/
def fnExactPutInOrderSpec : ChangeSpec := { name := "fnExactPutInOrder", fn := fun _ => fun
  | [d] => { results := [.lit (.bool true)], args := [d] }
  | _ => none }
def fnExactPutInOrderRow : OpenClaim := { program := "ytjbhlbcjljdjmaa", sum := "b5217cf7cfb0236fe31dcc731431e71cee2d022d691df6280e73dd553a792204", func := "loop.example/g03306/laws.FnExactPutInOrder", spec := "fnExactPutInOrder", unfollowed := true, recurses := true, apart := false }
def FnExactPutInOrderSaid : Prop := fnExactPutInOrderRow.holds Try.pinned (OpenSpec.ofChange fnExactPutInOrderSpec)

/-- ITS FALSE NEIGHBOUR: 'it returns false'. Refute it at one input. -/
def fnExactPutInOrderWrong : ChangeSpec := { name := "fnExactPutInOrder", fn := fun _ => fun
  | [d] => { results := [.lit (.bool false)], args := [d] }
  | _ => none }
def FnExactPutInOrderWrongFalsely : Prop := fnExactPutInOrderRow.holds Try.pinned (OpenSpec.ofChange fnExactPutInOrderWrong)

/-- 'laws.FnCompanies': WHATEVER THE INPUT: true; the input reads as it did. -/
def fnCompaniesSpec : ChangeSpec := { name := "fnCompanies", fn := fun _ => fun
  | [d] => { results := [.lit (.bool true)], args := [d] }
  | _ => none }
def fnCompaniesRow : OpenClaim := { program := "ytjbhlbcjljdjmaa", sum := "b5217cf7cfb0236fe31dcc731431e71cee2d022d691df6280e73dd553a792204", func := "loop.example/g03306/laws.FnCompanies", spec := "fnCompanies", unfollowed := true, recurses := true, apart := false }
def FnCompaniesSaid : Prop := fnCompaniesRow.holds Try.pinned (OpenSpec.ofChange fnCompaniesSpec)

/-- ITS FALSE NEIGHBOUR: 'it returns false'. Refute it at one input. -/
def fnCompaniesWrong : ChangeSpec := { name := "fnCompanies", fn := fun _ => fun
  | [d] => { results := [.lit (.bool false)], args := [d] }
  | _ => none }
def FnCompaniesWrongFalsely : Prop := fnCompaniesRow.holds Try.pinned (OpenSpec.ofChange fnCompaniesWrong)

/- THE SECOND FORM. 'bulk': how many values and letters a reading holds, each counted each time it is reached (what is shared counts as often as it is met; a slice's spare places count too). A statement '..UptoSaid' is the law's where the arguments, and the package variables that the reading takes, are together of bulk at most 1048576: NARROWER than '..Said'. Prove '..Said' where nothing that the law and all that it calls make is longer than what came in: it says more and counts as full. Else prove '..UptoSaid'. A law counts once. -/
mutual
def uptoBulk {H : Type} : DataW H → Nat
  | .lit (.string bytes) => bytes.length + 1
  | .lit _ => 1
  | .nil => 1
  | .ptr d => uptoBulk d + 1
  | .slice elems spare => uptoBulkAll elems + uptoBulkAll spare + 1
  | .agg parts => uptoBulkAll parts + 1
  | .iface _ d => uptoBulk d + 1
  | .map entries => uptoBulkEntries entries + 1
  | .held _ => 1
def uptoBulkAll {H : Type} : List (DataW H) → Nat
  | [] => 0
  | d :: r => uptoBulk d + uptoBulkAll r
def uptoBulkEntries {H : Type} : List (Lit × DataW H) → Nat
  | [] => 0
  | x :: r => uptoBulkEntry x + uptoBulkEntries r
def uptoBulkEntry {H : Type} : Lit × DataW H → Nat
  | (.string bytes, d) => bytes.length + uptoBulk d + 1
  | (_, d) => uptoBulk d + 1
 end
def uptoSmall : (H : Type) → List (DataW H) → Bool := fun _ ds => decide (uptoBulkAll ds ≤ 1048576)
def OpenSpec.upto (s : _root_.Go.ChangeSpec) : _root_.Go.OpenSpec := { _root_.Go.OpenSpec.ofChange s with cond := some uptoSmall }

/-- 'laws.FnBodies', WHERE WHAT IT READS IS OF BULK AT MOST 1048576: true; the input reads as it did. -/
def fnBodiesUptoRow : OpenClaim := { program := "ytjbhlbcjljdjmaa", sum := "b5217cf7cfb0236fe31dcc731431e71cee2d022d691df6280e73dd553a792204", func := "loop.example/g03306/laws.FnBodies", spec := "fnBodies", apart := false, narrowed := true }
def FnBodiesUptoSaid : Prop := fnBodiesUptoRow.holds Try.pinned (OpenSpec.upto fnBodiesSpec)

/-- 'laws.FnExactWhyNot', WHERE WHAT IT READS IS OF BULK AT MOST 1048576: true; the input reads as it did. -/
def fnExactWhyNotUptoRow : OpenClaim := { program := "ytjbhlbcjljdjmaa", sum := "b5217cf7cfb0236fe31dcc731431e71cee2d022d691df6280e73dd553a792204", func := "loop.example/g03306/laws.FnExactWhyNot", spec := "fnExactWhyNot", unfollowed := true, recurses := true, apart := false, narrowed := true }
def FnExactWhyNotUptoSaid : Prop := fnExactWhyNotUptoRow.holds Try.pinned (OpenSpec.upto fnExactWhyNotSpec)

/-- 'laws.FnExactUntwist', WHERE WHAT IT READS IS OF BULK AT MOST 1048576: true; the input reads as it did. -/
def fnExactUntwistUptoRow : OpenClaim := { program := "ytjbhlbcjljdjmaa", sum := "b5217cf7cfb0236fe31dcc731431e71cee2d022d691df6280e73dd553a792204", func := "loop.example/g03306/laws.FnExactUntwist", spec := "fnExactUntwist", unfollowed := true, recurses := true, apart := false, narrowed := true }
def FnExactUntwistUptoSaid : Prop := fnExactUntwistUptoRow.holds Try.pinned (OpenSpec.upto fnExactUntwistSpec)

/-- 'laws.FnExactGiveShow', WHERE WHAT IT READS IS OF BULK AT MOST 1048576: true; the input reads as it did. -/
def fnExactGiveShowUptoRow : OpenClaim := { program := "ytjbhlbcjljdjmaa", sum := "b5217cf7cfb0236fe31dcc731431e71cee2d022d691df6280e73dd553a792204", func := "loop.example/g03306/laws.FnExactGiveShow", spec := "fnExactGiveShow", unfollowed := true, recurses := true, apart := false, narrowed := true }
def FnExactGiveShowUptoSaid : Prop := fnExactGiveShowUptoRow.holds Try.pinned (OpenSpec.upto fnExactGiveShowSpec)

/-- 'laws.FnExactPutInOrder', WHERE WHAT IT READS IS OF BULK AT MOST 1048576: true; the input reads as it did. -/
def fnExactPutInOrderUptoRow : OpenClaim := { program := "ytjbhlbcjljdjmaa", sum := "b5217cf7cfb0236fe31dcc731431e71cee2d022d691df6280e73dd553a792204", func := "loop.example/g03306/laws.FnExactPutInOrder", spec := "fnExactPutInOrder", unfollowed := true, recurses := true, apart := false, narrowed := true }
def FnExactPutInOrderUptoSaid : Prop := fnExactPutInOrderUptoRow.holds Try.pinned (OpenSpec.upto fnExactPutInOrderSpec)

/-- 'laws.FnCompanies', WHERE WHAT IT READS IS OF BULK AT MOST 1048576: true; the input reads as it did. -/
def fnCompaniesUptoRow : OpenClaim := { program := "ytjbhlbcjljdjmaa", sum := "b5217cf7cfb0236fe31dcc731431e71cee2d022d691df6280e73dd553a792204", func := "loop.example/g03306/laws.FnCompanies", spec := "fnCompanies", unfollowed := true, recurses := true, apart := false, narrowed := true }
def FnCompaniesUptoSaid : Prop := fnCompaniesUptoRow.holds Try.pinned (OpenSpec.upto fnCompaniesSpec)

end Rows
end Go.Proofs.Ytjbhlbcjljdjmaa
