/- Acts as texts, in plain words; acts out of the fields of a line. No program in sight. -/
import Derived.Test.YtolfclbcfddhpaaDoorH2
import Derived.Test.YtolfclbcfddhpaaDoorBdRActx2
namespace Go.Proofs.YtolfclbcfddhpaaDoor
open Go.RowKit
abbrev RA := Int × Int × Int
def addN (s : ByteArray) (n : Int) : ByteArray := (s ++ spc1) ++ numS n
def lineS (w : ByteArray) (l : List Int) : ByteArray := l.foldl addN w
theorem lineS_list (w : ByteArray) (l : List Int) : (lineS w l).data.toList = jn 32 (w.data.toList :: l.map Lib.itoa) := by
 show (l.foldl addN w).data.toList = (l.map Lib.itoa).foldl (jnStep 32) w.data.toList
 induction l generalizing w with
 | nil => rfl
 | cons n l ih =>
  rw [List.foldl_cons, ih, List.map_cons, List.foldl_cons]
  congr 1
  simp [addN, jnStep, ByteArray.data_append, spc1, numS]
def wHire : ByteArray := ⟨#[104, 105, 114, 101]⟩
def wTeach : ByteArray := ⟨#[116, 101, 97, 99, 104]⟩
def wFront : ByteArray := ⟨#[102, 114, 111, 110, 116]⟩
def wBack : ByteArray := ⟨#[98, 97, 99, 107]⟩
def wOrder : ByteArray := ⟨#[111, 114, 100, 101, 114]⟩
def wShow : ByteArray := ⟨#[115, 104, 111, 119]⟩
def wWhy : ByteArray := ⟨#[119, 104, 121]⟩
def kWord (k : Int) : ByteArray := if k = 1 then wHire else if k = 2 then wTeach else if k = 3 then wFront else if k = 4 then wBack else if k = 5 then wOrder else if k = 6 then wShow else if k = 7 then wWhy else ByteArray.empty
def kNums (k a b : Int) : List Int := if k = 1 then [a] else if k = 2 then [a, b] else if k = 3 then [a] else if k = 4 then [a] else if k = 6 then [a] else []
def actS (t : RA) : ByteArray := if actB t.1 t.2.1 t.2.2 = true then lineS (kWord t.1) (kNums t.1 t.2.1 t.2.2) else ByteArray.empty
theorem act_k {k a b : Int} (h : actB k a b = true) : k = 1 ∨ k = 2 ∨ k = 3 ∨ k = 4 ∨ k = 5 ∨ k = 6 ∨ k = 7 := by
 apply Classical.byContradiction
 intro hn
 unfold actB at h
 rw [if_neg (by omega), if_neg (by omega), if_neg (by omega), if_neg (by omega), if_neg (by omega), if_neg (by omega), if_neg (by omega)] at h
 cases h
theorem act_bd {k a b : Int} (h : actB k a b = true) : (0 ≤ a ∧ a ≤ 365) ∧ (0 ≤ b ∧ b ≤ 6) := by
 rcases act_k h with rfl | rfl | rfl | rfl | rfl | rfl | rfl <;> (unfold actB inB at h; simp at h; try omega)
theorem nums_bd {k a b : Int} (h : actB k a b = true) : ∀ n ∈ kNums k a b, 0 ≤ n ∧ n ≤ 365 := by
 have := act_bd h
 rcases act_k h with rfl | rfl | rfl | rfl | rfl | rfl | rfl <;> (intro n hn; simp [kNums] at hn; try omega)
end Go.Proofs.YtolfclbcfddhpaaDoor
