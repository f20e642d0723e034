/- Several texts in one: Contracts: FormatInt of both, lineOf. Condition: the library's table of powers of ten reads as its text lays it. Contracts: FormatAct of both. Condition: the library's table of powers of ten reads as its text lays it. Written by a program (gen_h6.py). Contracts: SplitFields of both. -/
import Derived.Test.YtdhmhgjjppeodaaGreatDoorShelf
import Derived.Lib.AppendIntMem
import Derived.Laws.IdiomStrings
import Derived.Deep.DeepCutAuto
import Derived.IntWalk
import Derived.Test.YtdhmhgjjppeodaaGreatDoorBdH3x3
import Derived.Test.YtdhmhgjjppeodaaGreatDoorBdA1x8
import Derived.Test.YtdhmhgjjppeodaaGreatDoorBdM7x3
import Derived.Test.YtdhmhgjjppeodaaGreatDoorH2
namespace Go.Proofs.YtdhmhgjjppeodaaGreatDoor
open Go.RowKit
def TabOk (w : World) : Prop := Lib.TabIs Tryz.prog w "internal/strconv.uint64pow10" .u64 Lib.pow10Tab
theorem TabOk.below {w w' : World} (h : TabOk w) (hb : Below w.heap.size w w') : TabOk w' := by
 unfold TabOk Lib.TabIs World.var? at *
 cases hg : Tryz.prog.globalNamed "internal/strconv.uint64pow10" with
 | none => rw [hg] at h; exact h
 | some g =>
  rw [hg] at h
  simp only [Option.bind_some] at h ⊢
  have hlt : g < w.heap.size := by
   rcases Nat.lt_or_ge g w.heap.size with h1 | h1
   ·exact h1
   ·rw [Array.getElem?_eq_none h1] at h; cases h
  rw [hb.block g hlt]
  exact h
theorem row_all {e : TypeId} {size : Nat} (w : World) (cs : Array Value) (n : Nat) (hs : cs.size = n * size) (hm : n ≤ maxLen) : (w.alloc (.cells cs e)).ownsRow w.heap.size e size (.slice (some ⟨w.heap.size, 0, none⟩) n n) n cs.toList :=
 ⟨by simpa using hs, .inr ⟨w.heap.size, n, cs, rfl, Nat.le_refl _, heap_alloc_new w _, Nat.le_refl _, hm, hs, by rw [← hs]; exact List.take_of_length_le (Nat.le_of_eq (by simp))⟩⟩
theorem baL_list' (l : List UInt8) : (⟨l.toArray⟩ : ByteArray).data.toList = l := by simp
theorem flat_str (l : List ByteArray) : l.flatMap cStr = l.map Value.string := by
 induction l with
 | nil => rfl
 | cons x l ih => rw [List.flatMap_cons, ih]; rfl
theorem lineS_size (s : ByteArray) (l : List Int) (h : ∀ n ∈ l, -9223372036854775808 ≤ n ∧ n ≤ 9223372036854775807) : (lineS s l).size ≤ s.size + 22 * l.length := by
 unfold lineS
 induction l generalizing s with
 | nil => simp
 | cons n l ih =>
  rw [List.foldl_cons, List.length_cons]
  have h1 := ih (addN s n) (fun x hx => h x (List.mem_cons_of_mem _ hx))
  have h2 := numS_size n (h n List.mem_cons_self)
  have h3 : (addN s n).size = s.size + 1 + (numS n).size := by
   unfold addN
   rw [ByteArray.size_append, ByteArray.size_append]; rfl
  omega
theorem implFormatInt_any (n : Int) (w : World) (h0 : -9223372036854775808 ≤ n) (h1 : n ≤ 9223372036854775807) (ht : TabOk w) :
  Calls Tryz.prog 12 #[.int .i64 n] w fun e w' => e = .returned (.string (numS n)) ∧ Below w.heap.size w w' := by
 go_enter Tryz.func12, Tryz.ntmps12
 go_wp2_with (go_at_call 39; refine (lib_strconv_Itoa n h0 h1 _ ht).mono ?_; rintro e w' ⟨rfl, k, os, rfl⟩; skip)
 go_ret
 exact ⟨rfl, Lib.below_grow _ _ (Nat.le_refl _) _ _⟩
set_option maxHeartbeats 2000000 in
set_option maxRecDepth 100000 in
theorem lineOf_any (s : ByteArray) (v : Value) (l : List Int) (w : World) (h : RdL cInt 1 w v l) (hs : s.size ≤ 10) (hl : l.length ≤ 60) (hbd : ∀ n ∈ l, -9223372036854775808 ≤ n ∧ n ≤ 9223372036854775807) (ht : TabOk w) :
  Calls Tryz.prog 35 #[.string s, v] w fun e w' => e = .returned (.string (lineS s l)) ∧ Below w.heap.size w w' := by
 have h0 := h
 obtain ⟨A, c, rfl, h1, h2⟩ := h.form
 obtain ⟨i0, hi0, hz0, hz1', hz2⟩ := info_parts infoString
 have HBD := Lib.hid hbd
 clear hbd
 have hown0 : (w.alloc (.cells #[.string s] 9)).ownsRow w.heap.size 9 1 (.slice (some ⟨w.heap.size, 0, none⟩) 1 1) 1 [.string s] := row_all w #[.string s] 1 rfl (by simp [maxLen])
 have hb0 : Below w.heap.size w (w.alloc (.cells #[.string s] 9)) := (Below.refl _ _).alloc (Nat.le_refl _) _
 go_enter Tryz.func35, Tryz.ntmps35
 go_wp2_with fail
 go_loopw [5, 12] (fun q i wr => ∃ k : Nat, k ≤ l.length ∧ i = .int .i64 k ∧ wr.ownsRow w.heap.size 9 1 q (k + 1) ((s :: (l.take k).map numS).flatMap cStr) ∧ Below w.heap.size w wr) (fun _ i _ => l.length - (intOf i).toNat)
 case atStart => exact ⟨0, Nat.zero_le _, rfl, by simpa [cStr] using hown0, hb0⟩
 case round =>
  obtain ⟨k, hk, rfl, hown, hb⟩ := hrel
  clear hown0 hb0
  have hz := hb.size
  obtain ⟨Aq, cq, rfl, _, _⟩ := (RdS.of_own hown).form
  by_cases hlt : k < l.length
  ·obtain ⟨g, off, rfl, hg, hc⟩ := (h0.below hb).cell cInt_len (by omega) hlt
   have k0 := hc 0 _ rfl
   simp only [Nat.add_zero, Nat.mul_one] at k0
   clear hc
   have HB := HBD.out l[k] (List.getElem_mem hlt)
   have hlo := HB.1
   have hhi := HB.2
   have HN : Hid ((s :: (l.take (k + 1)).map numS).flatMap cStr = (s :: (l.take k).map numS).flatMap cStr ++ [.string (numS l[k])]) := by
    show _ = _
    have e : (s :: (l.take (k + 1)).map numS) = (s :: (l.take k).map numS) ++ [numS l[k]] := by rw [take_snoc_l l hlt, List.map_append]; rfl
    rw [e, List.flatMap_append]; rfl
   clear HB
   generalize l[k] = x at *
   go_wp2_with fail
   refine (implFormatInt_any x wr hlo hhi (ht.below hb)).mono ?_
   rintro e w1 ⟨rfl, hb1⟩
   have hown1 := own_below hown hb1
   have hbb := bl_trans hb hb1
   have hz1 := hbb.size
   clear hown hb1 k0 hlo hhi
   generalize numS x = t at *
   go_wp2_with (at_builtin; go_must (refine wpList_appendR _ rfl (.tmp 16) (.tmp 19) _ rfl w.heap.size 9 i0 _ 1 16 Tryz.underlying34 hi0 hz0 hz1' hz2 rfl (by omega) _ (k + 1) ((s :: (l.take k).map numS).flatMap cStr) rfl (hown1.alloc _) _ 1 [.string t] rfl (rdS_new w1 #[.string t] _ 1 1 rfl (by simp [maxLen])) (by simp [Value.oneCell']) (by simp [maxLen]; omega) (by omega) (by simp; omega) ?_); intro v3 w3 hown3 hgr3)
   have hb3 : Below w.heap.size w w3 := (hbb.alloc hbb.size _).trans (below_own (hown1.alloc (.cells #[.string t] 9)) hgr3 (by simp; omega))
   go_wp2_with fail
   go_roundw
   case rel => exact ⟨k + 1, by omega, by go_num, by rw [HN.out]; exact hown3, hb3⟩
   case measure => simp [intOf]; omega
  ·obtain rfl : k = l.length := by omega
   rw [List.take_length] at hown
   have hr : RdS wr 1 (.slice Aq (l.length + 1) cq) (l.length + 1) ((s :: l.map numS).flatMap cStr) := RdS.of_own hown
   have hcc : l.length + 1 ≤ cq := by obtain ⟨A', c', e, h3, _⟩ := hr.form; cases e; exact h3
   obtain ⟨g, off, rfl, hg, hcell⟩ := RdS.at_ hr (by omega) (by omega)
   have hxs : ∀ (j : Nat) (x : ByteArray), (s :: l.map numS)[j]? = some x → wr.cell? ⟨g, off + j, none⟩ = some (.string x) := fun j x hj => hcell j _ (by rw [flat_str, List.getElem?_map, hj]; rfl)
   have hlen : (s :: l.map numS).length = l.length + 1 := by simp
   have HJ : Hid ((⟨(Lib.join ((s :: l.map numS).map (·.data.toList)) [32]).toArray⟩ : ByteArray) = lineS s l) := by
    refine ba_ext ?_
    rw [lineS_list, join_jn, List.map_cons, List.map_map, baL_list']
    rfl
   have hsz : (Lib.join ((s :: l.map numS).map (·.data.toList)) [32]).length ≤ 140737488355328 := by
    have h3 := congrArg ByteArray.size HJ.out
    have h4 := lineS_size s l HBD.out
    have h5 : (⟨(Lib.join ((s :: l.map numS).map (·.data.toList)) [32]).toArray⟩ : ByteArray).size = (Lib.join ((s :: l.map numS).map (·.data.toList)) [32]).length := List.size_toArray
    omega
   have hJ := lib_strings_Join g off cq (s :: l.map numS) ⟨#[32]⟩ wr hxs hg (by omega) (by omega) hsz
   rw [hlen] at hJ
   have hJ2 : Calls Tryz.prog 40 #[.slice (some ⟨g, off, none⟩) (l.length + 1) cq, .string ⟨#[32]⟩] wr fun e w' => e = .returned (.string (lineS s l)) ∧ Below wr.heap.size wr w' := hJ.mono fun e w' ⟨he, hw⟩ => ⟨by rw [he]; exact congrArg (fun x => Ending.returned (.string x)) HJ.out, hw⟩
   have HJ2 := Lib.hid hJ2
   clear hJ hJ2 hsz hlen hxs hcell hr hcc hown
   go_wp2_with (go_at_call 40; refine HJ2.out.mono ?_; rintro e w1 ⟨rfl, hb1⟩; skip)
   go_ret
   exact ⟨rfl, bl_trans hb hb1⟩
open Go.RowKit
theorem actS_t {k a b : Int} (h : actB k a b = true) : actS (k, a, b) = lineS (kWord k) (kNums k a b) := if_pos h
theorem actS_f {k a b : Int} (h : actB k a b = false) : actS (k, a, b) = ByteArray.empty := if_neg (by rw [h]; simp)
theorem ret_sb {s t : ByteArray} {b c : Bool} (h : s = t) (h2 : b = c) : Ending.returned (.tuple #[.string s, .bool b]) = .returned (.tuple #[.string t, .bool c]) := by rw [h, h2]
theorem actS_size {k a b : Int} : (actS (k, a, b)).size ≤ 60 := by
 cases h : actB k a b with
 | false => rw [actS_f h]; exact Nat.zero_le _
 | true =>
  rw [actS_t h]
  have h1 := lineS_size (kWord k) (kNums k a b) (fun n hn => by have := nums_bd h n hn; omega)
  have h2 : (kWord k).size ≤ 5 := by rcases act_k h with rfl | rfl | rfl | rfl | rfl | rfl | rfl <;> decide
  have h3 : (kNums k a b).length ≤ 2 := by rcases act_k h with rfl | rfl | rfl | rfl | rfl | rfl | rfl <;> simp [kNums]
  omega
set_option maxHeartbeats 2000000 in
set_option maxRecDepth 100000 in
theorem implFormatAct_any (k a b : Int) (w : World) (ht : TabOk w) :
  Calls Tryz.prog 63 #[.agg #[.int .i64 k, .int .i64 a, .int .i64 b]] w fun e w' => e = .returned (.tuple #[.string (actS (k, a, b)), .bool (actB k a b)]) ∧ Below w.heap.size w w' := by
 have hal : Below w.heap.size w (w.alloc (.cells #[.int .i64 k, .int .i64 a, .int .i64 b] 90)) := (Below.refl _ _).alloc (Nat.le_refl _) _
 have L0 : Loc (w.alloc (.cells #[.int .i64 k, .int .i64 a, .int .i64 b] 90)) w.heap.size [.int .i64 k, .int .i64 a, .int .i64 b] := Loc.new w #[.int .i64 k, .int .i64 a, .int .i64 b] 90
 go_enter Tryz.func63, Tryz.ntmps63
 go_wp2_with fail
 refine twoB (implActOk_any k a b _) (fun w1 hq hb1 => ?_) (fun w1 hq hb1 => ?_)
 ·have L := L0.below hb1
  have hb2 := bl_trans hal hb1
  have T1 := ht.below hb2
  have b0 := (L 0 _ rfl).1
  have b1 := (L 1 _ rfl).1
  have b2 := (L 2 _ rfl).1
  have hbd := act_bd hq.out
  have hz := hb2.size
  have HA := Lib.hid (actS_t hq.out)
  clear L L0 hb1 hal
  rcases act_k hq.out with rfl | rfl | rfl | rfl | rfl | rfl | rfl
  ·have hal : Below w1.heap.size w1 (w1.alloc (.cells #[.int .i64 a] 3)) := (Below.refl _ _).alloc (Nat.le_refl _) _
   have hC : Calls Tryz.prog 35 #[.string wHire, .slice (some ⟨w1.heap.size, 0, none⟩) 1 1] (w1.alloc (.cells #[.int .i64 a] 3)) _ := lineOf_any wHire _ [a] (w1.alloc (.cells #[.int .i64 a] 3)) (rdS_new w1 #[.int .i64 a] _ 1 1 rfl (by simp [maxLen])) (by decide) (by simp) (by intro n hn; simp at hn; omega) (T1.below hal)
   have HC := Lib.hid hC
   have HB := Lib.hid (bl_trans hb2 hal)
   clear hC hal hbd T1
   go_wp2_with fail
   refine HC.out.mono ?_
   rintro e w2 ⟨rfl, hb3⟩
   go_wp2_with fail
   go_ret2
   exact ⟨ret_sb HA.out.symm hq.out.symm, bl_trans HB.out hb3⟩
  ·have hal : Below w1.heap.size w1 (w1.alloc (.cells #[.int .i64 a, .int .i64 b] 3)) := (Below.refl _ _).alloc (Nat.le_refl _) _
   have hC : Calls Tryz.prog 35 #[.string wTeach, .slice (some ⟨w1.heap.size, 0, none⟩) 2 2] (w1.alloc (.cells #[.int .i64 a, .int .i64 b] 3)) _ := lineOf_any wTeach _ [a, b] (w1.alloc (.cells #[.int .i64 a, .int .i64 b] 3)) (rdS_new w1 #[.int .i64 a, .int .i64 b] _ 1 2 rfl (by simp [maxLen])) (by decide) (by simp) (by intro n hn; simp at hn; omega) (T1.below hal)
   have HC := Lib.hid hC
   have HB := Lib.hid (bl_trans hb2 hal)
   clear hC hal hbd T1
   go_wp2_with fail
   refine HC.out.mono ?_
   rintro e w2 ⟨rfl, hb3⟩
   go_wp2_with fail
   go_ret2
   exact ⟨ret_sb HA.out.symm hq.out.symm, bl_trans HB.out hb3⟩
  ·have hal : Below w1.heap.size w1 (w1.alloc (.cells #[.int .i64 a] 3)) := (Below.refl _ _).alloc (Nat.le_refl _) _
   have hC : Calls Tryz.prog 35 #[.string wFront, .slice (some ⟨w1.heap.size, 0, none⟩) 1 1] (w1.alloc (.cells #[.int .i64 a] 3)) _ := lineOf_any wFront _ [a] (w1.alloc (.cells #[.int .i64 a] 3)) (rdS_new w1 #[.int .i64 a] _ 1 1 rfl (by simp [maxLen])) (by decide) (by simp) (by intro n hn; simp at hn; omega) (T1.below hal)
   have HC := Lib.hid hC
   have HB := Lib.hid (bl_trans hb2 hal)
   clear hC hal hbd T1
   go_wp2_with fail
   refine HC.out.mono ?_
   rintro e w2 ⟨rfl, hb3⟩
   go_wp2_with fail
   go_ret2
   exact ⟨ret_sb HA.out.symm hq.out.symm, bl_trans HB.out hb3⟩
  ·have hal : Below w1.heap.size w1 (w1.alloc (.cells #[.int .i64 a] 3)) := (Below.refl _ _).alloc (Nat.le_refl _) _
   have hC : Calls Tryz.prog 35 #[.string wBack, .slice (some ⟨w1.heap.size, 0, none⟩) 1 1] (w1.alloc (.cells #[.int .i64 a] 3)) _ := lineOf_any wBack _ [a] (w1.alloc (.cells #[.int .i64 a] 3)) (rdS_new w1 #[.int .i64 a] _ 1 1 rfl (by simp [maxLen])) (by decide) (by simp) (by intro n hn; simp at hn; omega) (T1.below hal)
   have HC := Lib.hid hC
   have HB := Lib.hid (bl_trans hb2 hal)
   clear hC hal hbd T1
   go_wp2_with fail
   refine HC.out.mono ?_
   rintro e w2 ⟨rfl, hb3⟩
   go_wp2_with fail
   go_ret2
   exact ⟨ret_sb HA.out.symm hq.out.symm, bl_trans HB.out hb3⟩
  ·clear hbd T1
   go_wp2_with fail
   go_ret2
   exact ⟨ret_sb HA.out.symm hq.out.symm, hb2⟩
  ·have hal : Below w1.heap.size w1 (w1.alloc (.cells #[.int .i64 a] 3)) := (Below.refl _ _).alloc (Nat.le_refl _) _
   have hC : Calls Tryz.prog 35 #[.string wShow, .slice (some ⟨w1.heap.size, 0, none⟩) 1 1] (w1.alloc (.cells #[.int .i64 a] 3)) _ := lineOf_any wShow _ [a] (w1.alloc (.cells #[.int .i64 a] 3)) (rdS_new w1 #[.int .i64 a] _ 1 1 rfl (by simp [maxLen])) (by decide) (by simp) (by intro n hn; simp at hn; omega) (T1.below hal)
   have HC := Lib.hid hC
   have HB := Lib.hid (bl_trans hb2 hal)
   clear hC hal hbd T1
   go_wp2_with fail
   refine HC.out.mono ?_
   rintro e w2 ⟨rfl, hb3⟩
   go_wp2_with fail
   go_ret2
   exact ⟨ret_sb HA.out.symm hq.out.symm, bl_trans HB.out hb3⟩
  ·clear hbd T1
   go_wp2_with fail
   go_ret2
   exact ⟨ret_sb HA.out.symm hq.out.symm, hb2⟩
 ·go_wp2_with fail
  go_ret2
  exact ⟨ret_sb (actS_f hq.out).symm hq.out.symm, bl_trans hal hb1⟩
open Go.RowKit
def RetF (s : ByteArray) (w : World) (e : Ending) (w' : World) : Prop := ∃ v, e = .returned (.tuple #[v, .bool (fldB s)]) ∧ RdL cStr 1 w' v (fldF s) ∧ Below w.heap.size w w'
theorem retF_f {s : ByteArray} {w w' : World} {v : Value} (h : fldB s = false) (hr : RdL cStr 1 w' v []) (hb : Below w.heap.size w w') : RetF s w (.returned (.tuple #[v, .bool false])) w' :=
 ⟨v, by rw [h], by unfold fldF; rw [h]; exact hr, hb⟩
theorem retF_t {s : ByteArray} {w w' : World} {v : Value} (h : fldB s = true) (hr : RdL cStr 1 w' v ((tok s.data.toList).map baL)) (hb : Below w.heap.size w w') : RetF s w (.returned (.tuple #[v, .bool true])) w' :=
 ⟨v, by rw [h], by unfold fldF; rw [if_pos h]; exact hr, hb⟩
theorem rd_nil (w : World) : RdL cStr 1 w (.slice none 0 0) [] := ⟨rfl, none, 0, rfl, Nat.le_refl _, by simp [maxLen], fun h => absurd h (by decide)⟩
theorem fldB_f1 {s : ByteArray} (h : ¬ s.size ≤ 600) : fldB s = false := by unfold fldB lineB; rw [decide_eq_false h]; rfl
theorem fldB_f2 {s : ByteArray} {k : Nat} (hk : k < s.size) (h : byteB 32 126 s[k] = false) : fldB s = false := by
 have hl : k < s.data.toList.length := by simpa using hk
 have : bytesB s 32 126 = false := all_false_at hl h
 unfold fldB lineB
 rw [this, Bool.and_false]; rfl
theorem fldB_f3 {s : ByteArray} (h : ¬ (tok s.data.toList).length ≤ 24) : fldB s = false := by unfold fldB; rw [decide_eq_false h, Bool.and_false]
theorem fldB_t {s : ByteArray} (h1 : s.size ≤ 600) (h2 : bytesB s 32 126 = true) (h3 : (tok s.data.toList).length ≤ 24) : fldB s = true := by unfold fldB lineB; rw [decide_eq_true h1, h2, decide_eq_true h3]; rfl
theorem take_s {s : ByteArray} {k : Nat} (hk : k < s.size) : s.data.toList.take (k + 1) = s.data.toList.take k ++ [s[k]] := by
 rw [List.take_succ_eq_append_getElem (by simpa using hk)]; rfl
theorem ext_cur {s : ByteArray} {b k : Nat} (_hk : k ≤ s.size) : baL ((s.data.toList.take k).drop b) = s.extract b k := by
 refine ba_ext ?_
 rw [baL_list, Lib.extract_data, List.drop_take]
theorem cur_ne {s : ByteArray} {b k : Nat} (hb : b < k) (hk : k ≤ s.size) : (s.data.toList.take k).drop b ≠ [] := by
 intro h
 have := congrArg List.length h
 simp at this
 omega
structure FldSt (s : ByteArray) (k : Nat) (out : List (List UInt8)) (b : Nat) : Prop where
 st : tokTo (s.data.toList.take k) = (out, (s.data.toList.take k).drop b)
 le : b ≤ k
 len : out.length ≤ k
 ok : (s.data.toList.take k).all (byteB 32 126) = true
theorem FldSt.zero (s : ByteArray) : FldSt s 0 [] 0 := ⟨rfl, Nat.le_refl _, Nat.le_refl _, rfl⟩
theorem FldSt.other {s : ByteArray} {k b : Nat} {out : List (List UInt8)} (h : FldSt s k out b) (hk : k < s.size) (hc : s[k] ≠ 32) (hy : byteB 32 126 s[k] = true) : FldSt s (k + 1) out b := by
 have hl : (s.data.toList.take k).length = k := by rw [List.length_take]; simp; omega
 refine ⟨?_, by have := h.le; omega, by have := h.len; omega, by rw [take_s hk, List.all_append, h.ok]; simp [hy]⟩
 rw [take_s hk, tokTo_snoc, h.st]
 unfold tokStep
 rw [if_neg hc, List.drop_append_of_le_length (by rw [hl]; exact h.le)]
theorem FldSt.space {s : ByteArray} {k b : Nat} {out : List (List UInt8)} (h : FldSt s k out b) (hk : k < s.size) (hc : s[k] = 32) : FldSt s (k + 1) (if b < k then out ++ [(s.data.toList.take k).drop b] else out) (k + 1) := by
 have hl : (s.data.toList.take k).length = k := by rw [List.length_take]; simp; omega
 have hle := h.le
 have hln := h.len
 refine ⟨?_, Nat.le_refl _, (by split; (rw [List.length_append, List.length_singleton]; omega); omega), by rw [take_s hk, List.all_append, h.ok, hc]; decide⟩
 rw [take_s hk, tokTo_snoc, h.st, hc, tokStep_sp]
 have hd : ((s.data.toList.take k) ++ [(32 : UInt8)]).drop (k + 1) = [] := List.drop_of_length_le (by rw [List.length_append, hl]; simp)
 rw [hd]
 unfold tokEnd
 by_cases hb : b < k
 ·rw [if_neg (cur_ne hb (by omega)), if_pos hb]
 ·rw [if_pos (List.drop_of_length_le (by rw [hl]; omega)), if_neg hb]
theorem FldSt.fin {s : ByteArray} {b : Nat} {out : List (List UInt8)} (h : FldSt s s.size out b) : tok s.data.toList = if b < s.size then out ++ [(s.data.toList.take s.size).drop b] else out := by
 have hl : (s.data.toList.take s.size).length = s.size := by rw [List.length_take]; simp
 have hle := h.le
 have e : tok s.data.toList = tokEnd (tokTo (s.data.toList.take s.size)) := by rw [List.take_of_length_le (by simp)]; rfl
 rw [e, h.st]
 unfold tokEnd
 by_cases hb : b < s.size
 ·rw [if_neg (cur_ne hb (Nat.le_refl _)), if_pos hb]
 ·rw [if_pos (List.drop_of_length_le (by rw [hl]; omega)), if_neg hb]
theorem FldSt.bytes {s : ByteArray} {b : Nat} {out : List (List UInt8)} (h : FldSt s s.size out b) : bytesB s 32 126 = true := by
 have := h.ok
 rwa [List.take_of_length_le (by simp)] at this
set_option maxHeartbeats 4000000 in
set_option maxRecDepth 100000 in
theorem implSplitFields_any (s : ByteArray) (w : World) (hs : s.size ≤ 9223372036854775807) :
  Calls Tryz.prog 65 #[.string s] w (RetF s w) := by
 obtain ⟨i0, hi0, hz0, hz1', hz2⟩ := info_parts infoString
 by_cases h600 : s.size ≤ 600
 ·have hown0 := World.ownsRow_made (size := 1) (e := 9) w #[] 0 (Nat.le_refl _) (by simp [maxLen]) rfl
  have hb0 : Below w.heap.size w (w.alloc (.cells #[] 9)) := (Below.refl _ _).alloc (Nat.le_refl _) _
  go_enter Tryz.func65, Tryz.ntmps65
  go_wp2_with fail
  go_loopw [4, 5, 13] (fun q f i wr => ∃ (k b : Nat) (out : List (List UInt8)), k ≤ s.size ∧ i = .int .i64 k ∧ f = .int .i64 (if b < k then (b : Int) else -1) ∧ out.length ≤ 600 ∧ Hid (FldSt s k out b) ∧ wr.ownsRow w.heap.size 9 1 q out.length ((out.map baL).flatMap cStr) ∧ Below w.heap.size w wr) (fun _ _ i _ => s.size - (intOf i).toNat)
  case atStart => exact ⟨0, 0, [], Nat.zero_le _, rfl, rfl, Nat.zero_le _, FldSt.zero s, hown0, hb0⟩
  case round =>
   obtain ⟨k, b, out, hk, rfl, rfl, ho, hst, hown, hb⟩ := hrel
   clear hown0 hb0
   have hz := hb.size
   have hbk := hst.out.le
   obtain ⟨Aq, cq, rfl, _, _⟩ := (RdS.of_own hown).form
   by_cases hlt : k < s.size
   ·by_cases hbl : b < k
    ·rw [if_pos hbl]
     by_cases h1 : (s[k].toNat : Int) < 32
     ·have hf := Lib.hid (fldB_f2 hlt (byteB_f1 h1))
      clear hst
      go_wp2_with fail
      go_ret2
      exact retF_f hf.out (rd_nil _) hb
     ·by_cases h2 : 126 < (s[k].toNat : Int)
      ·have hf := Lib.hid (fldB_f2 hlt (byteB_f2 h2))
       clear hst
       go_wp2_with fail
       go_ret2
       exact retF_f hf.out (rd_nil _) hb
      ·by_cases h3 : s[k] = 32
       ·have hn := hst.out.space hlt h3
        have h4 : ((s[k].toNat : Int) == 32) = true := by rw [h3]; rfl
        have hln := hst.out.len
        clear h3
        rw [if_pos hbl] at hn
        have HN := Lib.hid hn
        have HO : Hid (((out ++ [((s.data.toList.take k).drop b)]).map baL).flatMap cStr = (out.map baL).flatMap cStr ++ [.string (s.extract b k)]) := by
         show _ = _
         rw [List.map_append, List.flatMap_append, ← ext_cur hk]; rfl
        clear hn hst
        have hb0 : (0 : Int) ≤ (b : Int) := by omega
        have hbkI : (b : Int) ≤ (k : Int) := by omega
        go_wp2_with (at_builtin; go_must (refine wpList_appendR _ rfl (.tmp 32) (.tmp 37) _ rfl w.heap.size 9 i0 _ 1 16 Tryz.underlying34 hi0 hz0 hz1' hz2 rfl (by omega) _ out.length ((out.map baL).flatMap cStr) rfl (hown.alloc _) _ 1 [.string (s.extract b k)] rfl (rdS_new wr #[.string (s.extract b k)] _ 1 1 rfl (by simp [maxLen])) (by simp [Value.oneCell']) (by simp [maxLen]; omega) (by omega) (by simp; omega) ?_); intro v3 w3 hown3 hgr3)
        have hb3 : Below w.heap.size w w3 := (hb.alloc hb.size _).trans (below_own (hown.alloc (.cells #[.string (s.extract b k)] 9)) hgr3 (by simp; omega))
        clear hown hgr3
        go_wp2_with fail
        go_roundw
        case rel => exact ⟨k + 1, k + 1, _, by omega, by go_num, by rw [if_neg (by omega)], by rw [List.length_append, List.length_singleton]; omega, HN.out, by rw [HO.out, List.length_append]; exact hown3, hb3⟩
        case measure => simp [intOf]; omega
       ·have HN := Lib.hid (hst.out.other hlt h3 (byteB_t h1 h2))
        have h4 : ((s[k].toNat : Int) == 32) = false := by rw [beq_eq_false_iff_ne]; intro h; exact h3 (UInt8.toNat_inj.1 (by have : (32 : UInt8).toNat = 32 := rfl; omega))
        clear h3 hst
        have hb0 : ¬ (b : Int) < 0 := by omega
        go_wp2_with fail
        go_roundw
        case rel => exact ⟨k + 1, b, out, by omega, by go_num, by rw [if_pos (by omega)], ho, HN.out, hown, hb⟩
        case measure => simp [intOf]; omega
    ·rw [if_neg hbl]
     by_cases h1 : (s[k].toNat : Int) < 32
     ·have hf := Lib.hid (fldB_f2 hlt (byteB_f1 h1))
      clear hst
      go_wp2_with fail
      go_ret2
      exact retF_f hf.out (rd_nil _) hb
     ·by_cases h2 : 126 < (s[k].toNat : Int)
      ·have hf := Lib.hid (fldB_f2 hlt (byteB_f2 h2))
       clear hst
       go_wp2_with fail
       go_ret2
       exact retF_f hf.out (rd_nil _) hb
      ·by_cases h3 : s[k] = 32
       ·have hn := hst.out.space hlt h3
        have h4 : ((s[k].toNat : Int) == 32) = true := by rw [h3]; rfl
        have hln := hst.out.len
        clear h3
        rw [if_neg hbl] at hn
        have HN := Lib.hid hn
        clear hn hst
        go_wp2_with fail
        go_roundw
        case rel => exact ⟨k + 1, k + 1, out, by omega, by go_num, by rw [if_neg (by omega)], ho, HN.out, hown, hb⟩
        case measure => simp [intOf]; omega
       ·have HN := Lib.hid (hst.out.other hlt h3 (byteB_t h1 h2))
        have h4 : ((s[k].toNat : Int) == 32) = false := by rw [beq_eq_false_iff_ne]; intro h; exact h3 (UInt8.toNat_inj.1 (by have : (32 : UInt8).toNat = 32 := rfl; omega))
        clear h3 hst
        obtain rfl : b = k := by omega
        go_wp2_with fail
        go_roundw
        case rel => exact ⟨b + 1, b, out, by omega, by go_num, by rw [if_pos (by omega)], ho, HN.out, hown, hb⟩
        case measure => simp [intOf]; omega
   ·obtain rfl : k = s.size := by omega
    have hty := hst.out.bytes
    have hfin := hst.out.fin
    have hln := hst.out.len
    clear hst
    replace hty := Lib.hid hty
    by_cases hbl : b < s.size
    ·rw [if_pos hbl] at hfin ⊢
     have HF := Lib.hid hfin
     have HO : Hid (((out ++ [((s.data.toList.take s.size).drop b)]).map baL).flatMap cStr = (out.map baL).flatMap cStr ++ [.string (s.extract b s.size)]) := by
      show _ = _
      rw [List.map_append, List.flatMap_append, ← ext_cur (Nat.le_refl _)]; rfl
     clear hfin
     have hb0 : (0 : Int) ≤ (b : Int) := by omega
     have hbkI : (b : Int) ≤ (s.size : Int) := by omega
     have HL : Hid ((out ++ [((s.data.toList.take s.size).drop b)]).length = out.length + 1) := by show _ = _; rw [List.length_append]; rfl
     by_cases h24 : (tok s.data.toList).length ≤ 24
     ·have hf := Lib.hid (fldB_t h600 hty.out h24)
      have h24' := h24
      rw [HF.out, HL.out] at h24'
      clear h24
      go_wp2_with (at_builtin; go_must (refine wpList_appendR _ rfl (.tmp 45) (.tmp 49) _ rfl w.heap.size 9 i0 _ 1 16 Tryz.underlying34 hi0 hz0 hz1' hz2 rfl (by omega) _ out.length ((out.map baL).flatMap cStr) rfl (hown.alloc _) _ 1 [.string (s.extract b s.size)] rfl (rdS_new wr #[.string (s.extract b s.size)] _ 1 1 rfl (by simp [maxLen])) (by simp [Value.oneCell']) (by simp [maxLen]; omega) (by omega) (by simp; omega) ?_); intro v3 w3 hown3 hgr3; obtain ⟨A3, c3, rfl, _, _⟩ := (RdS.of_own hown3).form)
      have hb3 : Below w.heap.size w w3 := (hb.alloc hb.size _).trans (below_own (hown.alloc (.cells #[.string (s.extract b s.size)] 9)) hgr3 (by simp; omega))
      go_ret2
      exact retF_t hf.out (by rw [HF.out]; unfold RdL; rw [List.length_map, HL.out, HO.out]; exact RdS.of_own hown3) hb3
     ·have hf := Lib.hid (fldB_f3 h24)
      have h24' := h24
      rw [HF.out, HL.out] at h24'
      clear h24
      go_wp2_with (at_builtin; go_must (refine wpList_appendR _ rfl (.tmp 45) (.tmp 49) _ rfl w.heap.size 9 i0 _ 1 16 Tryz.underlying34 hi0 hz0 hz1' hz2 rfl (by omega) _ out.length ((out.map baL).flatMap cStr) rfl (hown.alloc _) _ 1 [.string (s.extract b s.size)] rfl (rdS_new wr #[.string (s.extract b s.size)] _ 1 1 rfl (by simp [maxLen])) (by simp [Value.oneCell']) (by simp [maxLen]; omega) (by omega) (by simp; omega) ?_); intro v3 w3 hown3 hgr3; obtain ⟨A3, c3, rfl, _, _⟩ := (RdS.of_own hown3).form)
      have hb3 : Below w.heap.size w w3 := (hb.alloc hb.size _).trans (below_own (hown.alloc (.cells #[.string (s.extract b s.size)] 9)) hgr3 (by simp; omega))
      go_ret2
      exact retF_f hf.out (rd_nil _) hb3
    ·rw [if_neg hbl] at hfin ⊢
     have HF := Lib.hid hfin
     have HOW := Lib.hid hown
     clear hfin hown
     by_cases h24 : (tok s.data.toList).length ≤ 24
     ·have hf := Lib.hid (fldB_t h600 hty.out h24)
      have h24' := h24
      rw [HF.out] at h24'
      clear h24
      go_wp2_with fail
      go_ret2
      exact retF_t hf.out (by rw [HF.out]; unfold RdL; rw [List.length_map]; exact RdS.of_own (by have := HOW.out; exact this)) hb
     ·have hf := Lib.hid (fldB_f3 h24)
      have h24' := h24
      rw [HF.out] at h24'
      clear h24
      go_wp2_with fail
      go_ret2
      exact retF_f hf.out (rd_nil _) hb
 ·go_enter Tryz.func65, Tryz.ntmps65
  go_wp2_with fail
  go_ret2
  exact retF_f (fldB_f1 h600) (rd_nil _) (Below.refl _ _)
end Go.Proofs.YtdhmhgjjppeodaaGreatDoor
