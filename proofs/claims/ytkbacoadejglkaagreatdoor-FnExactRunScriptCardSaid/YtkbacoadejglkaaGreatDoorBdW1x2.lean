/- Lemmas and contracts that this claim's theorem rests on. Conditions: those that each states. -/
import Derived.Deep.QuietTactic
import Derived.Test.YtkbacoadejglkaaGreatDoorBdC1x9
namespace Go.Proofs.YtkbacoadejglkaaGreatDoor
open Go.RowKit
section
variable {w0 w w' : World} {g : Nat} {A : Option Addr} {c : Nat} {bs : List Int}
end
theorem zn5 {w w' : World} {S : List Nat} (h : Chg S w w') (n : Nat) : Chg S w (w'.drewN n) := ⟨h.os, h.tape, h.output, h.size, h.block⟩
theorem Chg.alloc {S : List Nat} {w w' : World} (h : Chg S w w') (o : Obj) : Chg S w (w'.alloc o) := h.trans (Chg.of_below ((Below.refl _ _).alloc (Nat.le_refl _) o) S)
end Go.Proofs.YtkbacoadejglkaaGreatDoor
