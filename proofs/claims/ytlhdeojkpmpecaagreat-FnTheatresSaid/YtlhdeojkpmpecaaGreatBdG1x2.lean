/- Several texts in one: Plain law: with n - 1 limbs over n joints, 'all joints are reached' and 'no limb closes a circle' are one. No program in sight. Plain law of bodies: 'all joints are reached' by rounds over the limbs, and 'no limb closes a circle', are one. No program in sight. -/
import Derived.Test.YtlhdeojkpmpecaaGreatBdA1x8
namespace Go.Proofs.YtlhdeojkpmpecaaGreat
abbrev Edge := Nat × Nat
open Go.RowKit
/- bounds -/
/- counts -/
/- who is reached is joined with the start -/
def joined (es : List Edge) (k j : Nat) : Prop := ∀ p : Nat → Nat, (∀ e ∈ es, p e.1 = p e.2) → p j = p k
/- who is known stays known -/
end Go.Proofs.YtlhdeojkpmpecaaGreat
