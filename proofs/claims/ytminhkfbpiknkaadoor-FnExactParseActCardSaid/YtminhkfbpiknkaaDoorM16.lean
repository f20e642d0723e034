/- A frame written out by its slots. Over any program. -/
import Derived.Test.YtminhkfbpiknkaaDoorBdM5x2
namespace Go.Proofs.YtminhkfbpiknkaaDoor
theorem act_eq (n : Nat) {a : Act} (h : a.tmps.size = n) (hd : a.defers = []) : a = ⟨List.toArray ((List.range n).map fun i => a.tmps.getD i undef), []⟩ := by
 obtain ⟨⟨l⟩, d⟩ := a
 subst hd
 have h0 : l.length = n := h
 subst h0
 congr 1
 congr 1
 apply List.ext_getElem
 ·simp
 ·intro i h1 h2
  simp [Array.getD, h1]
end Go.Proofs.YtminhkfbpiknkaaDoor
