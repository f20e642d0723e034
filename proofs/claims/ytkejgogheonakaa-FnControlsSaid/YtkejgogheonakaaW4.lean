/- The drawing of words. -/
import Derived.Test.YtkejgogheonakaaW1
import Derived.Test.YtkejgogheonakaaC1
import Derived.Test.YtkejgogheonakaaM3
namespace Go.Proofs.Ytkejgogheonakaa
open Go.RowKit

theorem Chg.alloc {S : List Nat} {w w' : World} (h : Chg S w w') (o : Obj) : Chg S w (w'.alloc o) := h.trans (Chg.of_below ((Below.refl _ _).alloc (Nat.le_refl _) o) S)
theorem chg_of_own {w w' wx : World} {S : List Nat} {e : TypeId} {size n : Nat} {v : Value} {xs : List Value} (hc : Chg S w wx) (hown : wx.ownsRow w.heap.size e size v n xs) (hg : wx.grownBy w' v.ownBlock) : Chg S w w' :=
  ⟨hg.os.trans hc.os, hg.tape.trans hc.tape, hg.output.trans hc.output, Nat.le_trans hc.size hg.size, fun k hk hn => (hg.block k (Nat.lt_of_lt_of_le hk hc.size) (fun e => by have := (hown.lt k e.symm).1; omega)).trans (hc.block k hk hn)⟩
theorem cur_own {w0 wx w' : World} {g B : Nat} {A : Option Addr} {c : Nat} {bs : List Int} {e : TypeId} {size n : Nat} {v : Value} {xs : List Value} (hc : Cur w0 wx g A c bs) (hown : wx.ownsRow B e size v n xs) (hg : wx.grownBy w' v.ownBlock) (hgB : g < B) (hw : w0.heap.size ≤ B) : Cur w0 w' g A c bs :=
  hc.chg (Chg.of_grown hg) (fun hm => by have := (hown.lt g (by simpa using hm)).1; omega) (fun b hb => by have := (hown.lt b (by simpa using hb)).1; omega)

def PickPost (l : List ByteArray) (w0 w : World) (g : Nat) (A : Option Addr) (c : Nat) (bs : List Int) (e : Ending) (w' : World) : Prop :=
  ∃ s ∈ l, e = .returned (.string s) ∧ Cur w0 w' g A c bs ∧ Chg [g] w w'
end Go.Proofs.Ytkejgogheonakaa
