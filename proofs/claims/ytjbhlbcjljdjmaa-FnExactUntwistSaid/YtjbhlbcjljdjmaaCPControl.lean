/- Contracts: copies of Control. Written by a program (gen_copy.py). -/
import Derived.Test.YtjbhlbcjljdjmaaKC
import Derived.Test.YtjbhlbcjljdjmaaM8
import Derived.Test.YtjbhlbcjljdjmaaSControl
namespace Go.Proofs.Ytjbhlbcjljdjmaa
open Go.RowKit
theorem cCord_one (a : RCord) : ∀ y ∈ cCord a, y.oneCell' = true := by intro y hy; simp [cCord] at hy; rcases hy with rfl | rfl | rfl <;> rfl
theorem act13Control {a : Act} (h : a.tmps.size = 13) (hd : a.defers = []) : ∃ x0 x1 x2 x3 x4 x5 x6 x7 x8 x9 x10 x11 x12 : Value, a = ⟨#[x0, x1, x2, x3, x4, x5, x6, x7, x8, x9, x10, x11, x12], []⟩ := by
  obtain ⟨⟨l⟩, d⟩ := a
  subst hd
  match l, h with
  | [x0, x1, x2, x3, x4, x5, x6, x7, x8, x9, x10, x11, x12], _ => exact ⟨x0, x1, x2, x3, x4, x5, x6, x7, x8, x9, x10, x11, x12, rfl⟩
theorem act14Control {a : Act} (h : a.tmps.size = 14) (hd : a.defers = []) : ∃ x0 x1 x2 x3 x4 x5 x6 x7 x8 x9 x10 x11 x12 x13 : Value, a = ⟨#[x0, x1, x2, x3, x4, x5, x6, x7, x8, x9, x10, x11, x12, x13], []⟩ := by
  obtain ⟨⟨l⟩, d⟩ := a
  subst hd
  match l, h with
  | [x0, x1, x2, x3, x4, x5, x6, x7, x8, x9, x10, x11, x12, x13], _ => exact ⟨x0, x1, x2, x3, x4, x5, x6, x7, x8, x9, x10, x11, x12, x13, rfl⟩
end Go.Proofs.Ytjbhlbcjljdjmaa
