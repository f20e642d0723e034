/- Several texts in one: Acts as texts, in plain words; acts out of the fields of a line. No program in sight. Plain: what both ParseActs compute of a line's fields. Plain: an act's own text, with spaces around it, is read as the act. No program in sight. -/
import Derived.Test.YtdhmhgjjppeodaaGreatDoorH2
import Derived.Test.YtdhmhgjjppeodaaGreatDoorBdI7x12
namespace Go.Proofs.YtdhmhgjjppeodaaGreatDoor
open Go.RowKit
abbrev RA := Int × Int × Int
def addN (s : ByteArray) (n : Int) : ByteArray := (s ++ spc1) ++ numS n
def lineS (w : ByteArray) (l : List Int) : ByteArray := l.foldl addN w
theorem lineS_list (w : ByteArray) (l : List Int) : (lineS w l).data.toList = jn 32 (w.data.toList :: l.map Lib.itoa) := by
 show (l.foldl addN w).data.toList = (l.map Lib.itoa).foldl (jnStep 32) w.data.toList
 induction l generalizing w with
 | nil => rfl
 | cons n l ih =>
  rw [List.foldl_cons, ih, List.map_cons, List.foldl_cons]
  congr 1
  simp [addN, jnStep, ByteArray.data_append, spc1, numS]
def wHire : ByteArray := ⟨#[104, 105, 114, 101]⟩
def wTeach : ByteArray := ⟨#[116, 101, 97, 99, 104]⟩
def wFront : ByteArray := ⟨#[102, 114, 111, 110, 116]⟩
def wBack : ByteArray := ⟨#[98, 97, 99, 107]⟩
def wOrder : ByteArray := ⟨#[111, 114, 100, 101, 114]⟩
def wShow : ByteArray := ⟨#[115, 104, 111, 119]⟩
def wWhy : ByteArray := ⟨#[119, 104, 121]⟩
def kWord (k : Int) : ByteArray := if k = 1 then wHire else if k = 2 then wTeach else if k = 3 then wFront else if k = 4 then wBack else if k = 5 then wOrder else if k = 6 then wShow else if k = 7 then wWhy else ByteArray.empty
def kNums (k a b : Int) : List Int := if k = 1 then [a] else if k = 2 then [a, b] else if k = 3 then [a] else if k = 4 then [a] else if k = 6 then [a] else []
def actTok (t : RA) : List (List UInt8) := (kWord t.1).data.toList :: (kNums t.1 t.2.1 t.2.2).map Lib.itoa
def actS (t : RA) : ByteArray := if actB t.1 t.2.1 t.2.2 = true then lineS (kWord t.1) (kNums t.1 t.2.1 t.2.2) else ByteArray.empty
theorem act_k {k a b : Int} (h : actB k a b = true) : k = 1 ∨ k = 2 ∨ k = 3 ∨ k = 4 ∨ k = 5 ∨ k = 6 ∨ k = 7 := by
 apply Classical.byContradiction
 intro hn
 unfold actB at h
 rw [if_neg (by omega), if_neg (by omega), if_neg (by omega), if_neg (by omega), if_neg (by omega), if_neg (by omega), if_neg (by omega)] at h
 cases h
theorem act_bd {k a b : Int} (h : actB k a b = true) : (0 ≤ a ∧ a ≤ 365) ∧ (0 ≤ b ∧ b ≤ 6) := by
 rcases act_k h with rfl | rfl | rfl | rfl | rfl | rfl | rfl <;> (unfold actB inB at h; simp at h; try omega)
theorem act_rest {k a b : Int} (h : actB k a b = true) : (k ≠ 2 → b = 0) ∧ ((k = 5 ∨ k = 7) → a = 0) := by
 rcases act_k h with rfl | rfl | rfl | rfl | rfl | rfl | rfl <;> (unfold actB inB at h; simp at h; (try simp); try omega)
theorem itoa_fld {n : Int} (h : 0 ≤ n) : Lib.itoa n ≠ [] ∧ (32 : UInt8) ∉ Lib.itoa n := by
 obtain ⟨m, rfl⟩ := Int.eq_ofNat_of_zero_le h
 rw [itoa_nat]
 exact ⟨dec_ne m, fun hm => by have := (dec_digits m 32 hm).1; simp at this⟩
theorem word_fld {k : Int} (h : k = 1 ∨ k = 2 ∨ k = 3 ∨ k = 4 ∨ k = 5 ∨ k = 6 ∨ k = 7) : (kWord k).data.toList ≠ [] ∧ (32 : UInt8) ∉ (kWord k).data.toList := by
 rcases h with rfl | rfl | rfl | rfl | rfl | rfl | rfl <;> decide
theorem nums_bd {k a b : Int} (h : actB k a b = true) : ∀ n ∈ kNums k a b, 0 ≤ n ∧ n ≤ 365 := by
 have := act_bd h
 rcases act_k h with rfl | rfl | rfl | rfl | rfl | rfl | rfl <;> (intro n hn; simp [kNums] at hn; try omega)
theorem actTok_flds {t : RA} (h : actB t.1 t.2.1 t.2.2 = true) : Flds (actTok t) := by
 intro f hf
 rcases List.mem_cons.1 hf with rfl | hf
 ·exact word_fld (act_k h)
 ·obtain ⟨n, hn, rfl⟩ := List.mem_map.1 hf
  exact itoa_fld (nums_bd h n hn).1
theorem actS_list {t : RA} (h : actB t.1 t.2.1 t.2.2 = true) : (actS t).data.toList = jn 32 (actTok t) := by
 unfold actS
 rw [if_pos h, lineS_list]; rfl
def kindOf (s : ByteArray) : Int := if s = wHire then 1 else if s = wTeach then 2 else if s = wFront then 3 else if s = wBack then 4 else if s = wOrder then 5 else if s = wShow then 6 else if s = wWhy then 7 else 0
theorem kind_word {k : Int} (h : k = 1 ∨ k = 2 ∨ k = 3 ∨ k = 4 ∨ k = 5 ∨ k = 6 ∨ k = 7) : kindOf (kWord k) = k := by
 rcases h with rfl | rfl | rfl | rfl | rfl | rfl | rfl <;> decide
theorem kind_cases (s : ByteArray) : (kindOf s = 0 ∧ ∀ k : Int, k = 1 ∨ k = 2 ∨ k = 3 ∨ k = 4 ∨ k = 5 ∨ k = 6 ∨ k = 7 → s ≠ kWord k) ∨ ((kindOf s = 1 ∨ kindOf s = 2 ∨ kindOf s = 3 ∨ kindOf s = 4 ∨ kindOf s = 5 ∨ kindOf s = 6 ∨ kindOf s = 7) ∧ s = kWord (kindOf s)) := by
 by_cases h : ∃ k : Int, (k = 1 ∨ k = 2 ∨ k = 3 ∨ k = 4 ∨ k = 5 ∨ k = 6 ∨ k = 7) ∧ s = kWord k
 ·obtain ⟨k, hk, rfl⟩ := h
  rw [kind_word hk]
  exact .inr ⟨hk, rfl⟩
 ·refine .inl ⟨?_, fun k hk e => h ⟨k, hk, e⟩⟩
  have hn : ∀ k : Int, k = 1 ∨ k = 2 ∨ k = 3 ∨ k = 4 ∨ k = 5 ∨ k = 6 ∨ k = 7 → s ≠ kWord k := fun k hk e => h ⟨k, hk, e⟩
  unfold kindOf
  rw [if_neg (show ¬ s = wHire from hn 1 (by simp)), if_neg (show ¬ s = wTeach from hn 2 (by simp)), if_neg (show ¬ s = wFront from hn 3 (by simp)), if_neg (show ¬ s = wBack from hn 4 (by simp)), if_neg (show ¬ s = wOrder from hn 5 (by simp)), if_neg (show ¬ s = wShow from hn 6 (by simp)), if_neg (show ¬ s = wWhy from hn 7 (by simp))]
def finA (t : RA) (fs : List ByteArray) : RA × Bool := if actB t.1 t.2.1 t.2.2 = true ∧ actTok t = fs.map (fun s => s.data.toList) then (t, true) else ((0, 0, 0), false)
def impA : List ByteArray → RA × Bool
 | [f] => finA (kindOf f, 0, 0) [f]
 | [f, x] => if (pU x).2 = true then finA (kindOf f, (pU x).1, 0) [f, x] else ((0, 0, 0), false)
 | [f, x, y] => if (pU x).2 = true ∧ (pU y).2 = true then finA (kindOf f, (pU x).1, (pU y).1) [f, x, y] else ((0, 0, 0), false)
 | _ => ((0, 0, 0), false)
def numF (s : ByteArray) : Int := if 1 < s.size ∧ s.data.toList.head? = some 45 then -(pU (s.extract 1 s.size)).1 else (pU s).1
def argA (fs : List ByteArray) : Int × Int := match fs with
 | [_, x] => (numF x, 0)
 | [_, x, y] => (numF x, numF y)
 | _ => (0, 0)
def spcTo (fs : List ByteArray) (a b : Int) : List Int → RA × Bool
 | [] => ((0, 0, 0), false)
 | k :: ks => if (finA (k, a, b) fs).2 = true then finA (k, a, b) fs else spcTo fs a b ks
def kinds7 : List Int := [1, 2, 3, 4, 5, 6, 7]
def spcA (fs : List ByteArray) : RA × Bool := if fs.length = 0 ∨ 3 < fs.length then ((0, 0, 0), false) else spcTo fs (argA fs).1 (argA fs).2 kinds7
theorem finA_f {t : RA} {fs : List ByteArray} (h : ¬ (finA t fs).2 = true) : finA t fs = ((0, 0, 0), false) := by
 unfold finA at h ⊢
 split
 ·rename_i h2; rw [if_pos h2] at h; exact absurd rfl h
 ·rfl
theorem finA_t {t : RA} {fs : List ByteArray} (h : (finA t fs).2 = true) : finA t fs = (t, true) ∧ actB t.1 t.2.1 t.2.2 = true ∧ actTok t = fs.map (fun s => s.data.toList) := by
 unfold finA at h ⊢
 split
 ·rename_i h2; exact ⟨rfl, h2⟩
 ·rename_i h2; rw [if_neg h2] at h; cases h
theorem finA_kind {k a b : Int} {f : ByteArray} {fs : List ByteArray} (h : (finA (k, a, b) (f :: fs)).2 = true) : kindOf f = k := by
 obtain ⟨_, h2, h3⟩ := finA_t h
 have h4 : (kWord k).data.toList = f.data.toList := by
  have := congrArg List.head? h3
  simpa [actTok] using this
 rw [← ba_ext h4]
 exact kind_word (act_k h2)
theorem spcTo_eq (f : ByteArray) (fs : List ByteArray) (a b : Int) : ∀ ks : List Int, spcTo (f :: fs) a b ks = if kindOf f ∈ ks then finA (kindOf f, a, b) (f :: fs) else ((0, 0, 0), false) := by
 intro ks
 induction ks with
 | nil => rfl
 | cons k ks ih =>
  rw [spcTo]
  by_cases h : (finA (k, a, b) (f :: fs)).2 = true
  ·rw [if_pos h, finA_kind h, if_pos List.mem_cons_self]
  ·rw [if_neg h, ih]
   by_cases hk : kindOf f = k
   ·have hm : kindOf f ∈ k :: ks := by rw [hk]; exact List.mem_cons_self
    rw [if_pos hm]
    subst hk
    rw [finA_f h]
    split <;> rfl
   ·by_cases hm : kindOf f ∈ ks
    ·rw [if_pos hm, if_pos (List.mem_cons_of_mem _ hm)]
    ·rw [if_neg hm, if_neg (fun hm' => by rcases List.mem_cons.1 hm' with h | h; exact hk h; exact hm h)]
theorem spcA_eq (f : ByteArray) (fs : List ByteArray) (h : fs.length ≤ 2) : spcA (f :: fs) = finA (kindOf f, (argA (f :: fs)).1, (argA (f :: fs)).2) (f :: fs) := by
 unfold spcA
 rw [if_neg (by simp; omega), spcTo_eq]
 rcases kind_cases f with ⟨h1, h2⟩ | ⟨h1, _⟩
 ·rw [if_neg (by rw [h1]; decide)]
  refine (finA_f (fun h3 => ?_)).symm
  have := (finA_t h3).2.1
  rw [h1] at this
  exact absurd (act_k this) (by omega)
 ·rw [if_pos (by simp [kinds7]; omega)]
theorem numF_num {n : Nat} (h : n ≤ 1000000000) : numF (numS n) = (n : Int) := by
 unfold numF
 rw [if_neg, pU_num h]
 rintro ⟨_, h2⟩
 rw [numS_list, itoa_nat] at h2
 have h3 := List.mem_of_mem_head? (by rw [h2]; rfl : (45 : UInt8) ∈ (Lib.decDigits n).head?)
 have := (dec_digits n 45 h3).1
 simp at this
theorem pU_tok {s : ByteArray} {n : Int} (h0 : 0 ≤ n ∧ n ≤ 365) (h : Lib.itoa n = s.data.toList) : (pU s).2 = true := by
 obtain ⟨m, rfl⟩ := Int.eq_ofNat_of_zero_le h0.1
 have : s = numS m := ba_ext (by rw [numS_list, ← h])
 rw [this, pU_num (by omega)]
theorem read_same (fs : List ByteArray) : impA fs = spcA fs := by
 match fs with
 | [] => rfl
 | [f] => rw [spcA_eq f [] (by simp)]; rfl
 | [f, x] =>
  rw [spcA_eq f [x] (by simp)]
  show (if (pU x).2 = true then finA (kindOf f, (pU x).1, 0) [f, x] else ((0, 0, 0), false)) = finA (kindOf f, numF x, 0) [f, x]
  split
  ·rename_i h
   rcases pU_cases x with ⟨n, h1, h2, h3⟩ | ⟨h2, _⟩
   ·rw [h3, show numF x = n by rw [h2, numF_num h1]]
   ·rw [h2] at h; cases h
  ·rename_i h
   refine (finA_f (fun h3 => h ?_)).symm
   obtain ⟨_, h4, h5⟩ := finA_t h3
   have hb := nums_bd h4
   unfold actTok at h5
   generalize kNums _ _ _ = l at h5 hb
   match l, h5, hb with
   | [n], h5, hb =>
    simp at h5
    exact pU_tok (hb n List.mem_cons_self) h5.2
   | [], h5, _ => simp at h5
   | _ :: _ :: _, h5, _ => simp at h5
 | [f, x, y] =>
  rw [spcA_eq f [x, y] (by simp)]
  show (if (pU x).2 = true ∧ (pU y).2 = true then finA (kindOf f, (pU x).1, (pU y).1) [f, x, y] else ((0, 0, 0), false)) = finA (kindOf f, numF x, numF y) [f, x, y]
  split
  ·rename_i h
   rcases pU_cases x with ⟨n, h1, h2, h3⟩ | ⟨h2, _⟩
   ·rcases pU_cases y with ⟨n', h1', h2', h3'⟩ | ⟨h2', _⟩
    ·rw [h3, h3', show numF x = n by rw [h2, numF_num h1], show numF y = n' by rw [h2', numF_num h1']]
    ·have := h.2; rw [h2'] at this; cases this
   ·have := h.1; rw [h2] at this; cases this
  ·rename_i h
   refine (finA_f (fun h3 => h ?_)).symm
   obtain ⟨_, h4, h5⟩ := finA_t h3
   have hb := nums_bd h4
   unfold actTok at h5
   generalize kNums _ _ _ = l at h5 hb
   match l, h5, hb with
   | [n, n'], h5, hb =>
    simp at h5
    exact ⟨pU_tok (hb n List.mem_cons_self) h5.2.1, pU_tok (hb n' (by simp)) h5.2.2⟩
   | [], h5, _ => simp at h5
   | [_], h5, _ => simp at h5
   | _ :: _ :: _ :: _, h5, _ => simp at h5
 | _ :: _ :: _ :: _ :: _ =>
  show ((0, 0, 0), false) = spcA _
  unfold spcA
  rw [if_pos (by right; simp)]
theorem read_act {t : RA} (h : actB t.1 t.2.1 t.2.2 = true) : impA ((actTok t).map baL) = (t, true) := by
 obtain ⟨k, a, b⟩ := t
 have hr := act_rest h
 have hb := act_bd h
 obtain ⟨m, rfl⟩ := Int.eq_ofNat_of_zero_le hb.1.1
 obtain ⟨m', rfl⟩ := Int.eq_ofNat_of_zero_le hb.2.1
 have ha : ∀ n : Nat, baL (Lib.itoa n) = numS n := fun n => ba_ext (by rw [baL_list, numS_list])
 have hfin : finA (k, (m : Int), (m' : Int)) ((actTok (k, (m : Int), (m' : Int))).map baL) = ((k, (m : Int), (m' : Int)), true) := by
  have e : actTok (k, (m : Int), (m' : Int)) = ((actTok (k, (m : Int), (m' : Int))).map baL).map (fun s => s.data.toList) := by
   rw [List.map_map]
   exact ((List.map_congr_left (g := id) (fun l _ => baL_list l)).trans (List.map_id _)).symm
  unfold finA
  exact if_pos ⟨h, e⟩
 have hw : ∀ k : Int, baL (kWord k).data.toList = kWord k := fun k => baL_of _
 have hkw := kind_word (act_k h)
 dsimp only at hr hb h
 rcases act_k h with rfl | rfl | rfl | rfl | rfl | rfl | rfl
 all_goals
  simp [actTok, kNums, hw, ha] at hfin ⊢
  try (have e0 : m' = 0 := by have := hr.1 (by decide); omega)
  try subst e0
  try (have e1 : m = 0 := by have := hr.2 (by decide); omega)
  try subst e1
  simp only [impA, hkw]
  try rw [pU_num (by omega)]
  try rw [pU_num (by omega)]
  simpa using hfin
end Go.Proofs.YtdhmhgjjppeodaaGreatDoor

namespace Go.Proofs.YtdhmhgjjppeodaaGreatDoor
def FB (fs : List ByteArray) : Prop := Flds (fs.map (fun s => s.data.toList))
theorem fb_fldF (s : ByteArray) : FB (fldF s) := by
 unfold FB fldF
 split
 ·have e : ((tok s.data.toList).map baL).map (fun s => s.data.toList) = tok s.data.toList := by
   rw [List.map_map]
   exact (List.map_congr_left (g := id) (fun l _ => baL_list l)).trans (List.map_id _)
  rw [e]
  exact tok_flds _
 ·intro f hf; simp at hf
def jnB (fs : List ByteArray) : ByteArray := baL (jn 32 (fs.map (fun s => s.data.toList)))
theorem jnB_one (f : ByteArray) : jnB [f] = f := by
 unfold jnB
 show baL f.data.toList = f
 exact baL_of f
theorem jnB_snoc (f x : ByteArray) (l : List ByteArray) : jnB (f :: (l ++ [x])) = jnB (f :: l) ++ (⟨#[32]⟩ : ByteArray) ++ x := by
 refine ba_ext ?_
 unfold jnB
 rw [baL_list]
 simp only [List.map_cons, List.map_append, List.map_nil, ByteArray.data_append, Array.toList_append, baL_list]
 rw [jn_snoc]
 simp
theorem act_text {t : RA} {fs : List ByteArray} (h : actB t.1 t.2.1 t.2.2 = true) (hf : FB fs) : actS t = jnB fs ↔ actTok t = fs.map (fun s => s.data.toList) := by
 constructor
 ·intro e
  refine jn_inj (actTok_flds h) hf ?_
  rw [← actS_list h, e]
  unfold jnB
  rw [baL_list]
 ·intro e
  refine ba_ext ?_
  rw [actS_list h, e]
  unfold jnB
  rw [baL_list]
theorem finA_y {t : RA} {fs : List ByteArray} (h : actB t.1 t.2.1 t.2.2 = true) (hf : FB fs) (e : actS t = jnB fs) : finA t fs = (t, true) := by
 unfold finA
 exact if_pos ⟨h, (act_text h hf).1 e⟩
theorem finA_n1 {t : RA} {fs : List ByteArray} (h : actB t.1 t.2.1 t.2.2 = false) : finA t fs = ((0, 0, 0), false) := by
 unfold finA
 exact if_neg (fun h2 => by rw [h] at h2; exact absurd h2.1 (by decide))
theorem finA_n2 {t : RA} {fs : List ByteArray} (hf : FB fs) (e : actS t ≠ jnB fs) : finA t fs = ((0, 0, 0), false) := by
 unfold finA
 exact if_neg (fun h2 => e ((act_text h2.1 hf).2 h2.2))
theorem len_le_sum {l : List UInt8} : ∀ {fs : List (List UInt8)}, l ∈ fs → l.length ≤ (fs.map List.length).sum := by
 intro fs
 induction fs with
 | nil => intro h; cases h
 | cons x fs ih =>
  intro h
  rw [List.map_cons, List.sum_cons]
  rcases List.mem_cons.1 h with rfl | h
  ·omega
  ·have := ih h; omega
theorem fldF_sz {s f : ByteArray} (h : f ∈ fldF s) : f.size ≤ 600 := by
 unfold fldF at h
 split at h
 ·rename_i hb
  obtain ⟨l, hl, rfl⟩ := List.mem_map.1 h
  have h1 := tok_sz s.data.toList
  have h2 := len_le_sum hl
  have h3 : (baL l).size = l.length := by simp [baL, ByteArray.size]
  have h4 : s.size ≤ 600 := by
   unfold fldB lineB at hb
   simp at hb
   omega
  have h5 : s.data.toList.length = s.size := by simp
  omega
 ·cases h
def prsA (s : ByteArray) : RA × Bool := if fldB s = true then spcA (fldF s) else ((0, 0, 0), false)
end Go.Proofs.YtdhmhgjjppeodaaGreatDoor

namespace Go.Proofs.YtdhmhgjjppeodaaGreatDoor
theorem jn_mem {c x : UInt8} : ∀ {fs : List (List UInt8)}, x ∈ jn c fs → x = c ∨ ∃ f ∈ fs, x ∈ f := by
 intro fs
 induction fs with
 | nil => intro h; cases h
 | cons w fs ih =>
  intro h
  match fs with
  | [] => exact .inr ⟨w, List.mem_cons_self, h⟩
  | y :: r =>
   rw [jn_cons] at h
   rcases List.mem_append.1 h with h | h
   ·exact .inr ⟨w, List.mem_cons_self, h⟩
   ·rcases List.mem_cons.1 h with h | h
    ·exact .inl h
    ·rcases ih h with h | ⟨f, hf, h⟩
     ·exact .inl h
     ·exact .inr ⟨f, List.mem_cons_of_mem _ hf, h⟩
theorem word_bytes {k : Int} (h : k = 1 ∨ k = 2 ∨ k = 3 ∨ k = 4 ∨ k = 5 ∨ k = 6 ∨ k = 7) : (kWord k).data.toList.all (byteB 32 126) = true := by
 rcases h with rfl | rfl | rfl | rfl | rfl | rfl | rfl <;> decide
theorem act_bytes {t : RA} (h : actB t.1 t.2.1 t.2.2 = true) : ∀ x ∈ jn 32 (actTok t), byteB 32 126 x = true := by
 intro x hx
 rcases jn_mem hx with rfl | ⟨f, hf, hx⟩
 ·decide
 ·rcases List.mem_cons.1 hf with rfl | hf
  ·exact List.all_eq_true.1 (word_bytes (act_k h)) x hx
  ·obtain ⟨n, hn, rfl⟩ := List.mem_map.1 hf
   have hb := nums_bd h n hn
   obtain ⟨m, rfl⟩ := Int.eq_ofNat_of_zero_le hb.1
   rw [itoa_nat] at hx
   have := dec_digits m x hx
   exact byteB_t (by omega) (by omega)
theorem kNums_len (k a b : Int) : (kNums k a b).length ≤ 2 := by
 unfold kNums
 (repeat' split) <;> simp
end Go.Proofs.YtdhmhgjjppeodaaGreatDoor
