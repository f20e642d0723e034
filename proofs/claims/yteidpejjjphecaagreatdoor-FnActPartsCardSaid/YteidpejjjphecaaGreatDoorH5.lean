/- Contracts: FormatInt of both, lineOf. Condition: the library's table of powers of ten reads as its text lays it. -/
import Derived.Test.YteidpejjjphecaaGreatDoorShelf
import Derived.Lib.AppendIntMem
import Derived.Laws.IdiomStrings
import Derived.Deep.DeepCutAuto
import Derived.IntWalk
import Derived.Test.YteidpejjjphecaaGreatDoorH3
import Derived.Test.YteidpejjjphecaaGreatDoorBdA1x10
import Derived.Test.YteidpejjjphecaaGreatDoorBdM7x3
namespace Go.Proofs.YteidpejjjphecaaGreatDoor
open Go.RowKit
def TabOk (w : World) : Prop := Lib.TabIs Tryz.prog w "internal/strconv.uint64pow10" .u64 Lib.pow10Tab
theorem TabOk.below {w w' : World} (h : TabOk w) (hb : Below w.heap.size w w') : TabOk w' := by
 unfold TabOk Lib.TabIs World.var? at *
 cases hg : Tryz.prog.globalNamed "internal/strconv.uint64pow10" with
 | none => rw [hg] at h; exact h
 | some g =>
  rw [hg] at h
  simp only [Option.bind_some] at h ⊢
  have hlt : g < w.heap.size := by
   rcases Nat.lt_or_ge g w.heap.size with h1 | h1
   ·exact h1
   ·rw [Array.getElem?_eq_none h1] at h; cases h
  rw [hb.block g hlt]
  exact h
theorem row_all {e : TypeId} {size : Nat} (w : World) (cs : Array Value) (n : Nat) (hs : cs.size = n * size) (hm : n ≤ maxLen) : (w.alloc (.cells cs e)).ownsRow w.heap.size e size (.slice (some ⟨w.heap.size, 0, none⟩) n n) n cs.toList :=
 ⟨by simpa using hs, .inr ⟨w.heap.size, n, cs, rfl, Nat.le_refl _, heap_alloc_new w _, Nat.le_refl _, hm, hs, by rw [← hs]; exact List.take_of_length_le (Nat.le_of_eq (by simp))⟩⟩
theorem baL_list' (l : List UInt8) : (⟨l.toArray⟩ : ByteArray).data.toList = l := by simp
theorem flat_str (l : List ByteArray) : l.flatMap cStr = l.map Value.string := by
 induction l with
 | nil => rfl
 | cons x l ih => rw [List.flatMap_cons, ih]; rfl
theorem lineS_size (s : ByteArray) (l : List Int) (h : ∀ n ∈ l, -9223372036854775808 ≤ n ∧ n ≤ 9223372036854775807) : (lineS s l).size ≤ s.size + 22 * l.length := by
 unfold lineS
 induction l generalizing s with
 | nil => simp
 | cons n l ih =>
  rw [List.foldl_cons, List.length_cons]
  have h1 := ih (addN s n) (fun x hx => h x (List.mem_cons_of_mem _ hx))
  have h2 := numS_size n (h n List.mem_cons_self)
  have h3 : (addN s n).size = s.size + 1 + (numS n).size := by
   unfold addN
   rw [ByteArray.size_append, ByteArray.size_append]; rfl
  omega
theorem implFormatInt_any (n : Int) (w : World) (h0 : -9223372036854775808 ≤ n) (h1 : n ≤ 9223372036854775807) (ht : TabOk w) :
  Calls Tryz.prog 21 #[.int .i64 n] w fun e w' => e = .returned (.string (numS n)) ∧ Below w.heap.size w w' := by
 go_enter Tryz.func21, Tryz.ntmps21
 go_wp2_with (go_at_call 43; refine (lib_strconv_Itoa n h0 h1 _ ht).mono ?_; rintro e w' ⟨rfl, k, os, rfl⟩; skip)
 go_ret
 exact ⟨rfl, Lib.below_grow _ _ (Nat.le_refl _) _ _⟩
set_option maxHeartbeats 2000000 in
set_option maxRecDepth 100000 in
theorem lineOf_any (s : ByteArray) (v : Value) (l : List Int) (w : World) (h : RdL cInt 1 w v l) (hs : s.size ≤ 10) (hl : l.length ≤ 60) (hbd : ∀ n ∈ l, -9223372036854775808 ≤ n ∧ n ≤ 9223372036854775807) (ht : TabOk w) :
  Calls Tryz.prog 18 #[.string s, v] w fun e w' => e = .returned (.string (lineS s l)) ∧ Below w.heap.size w w' := by
 have h0 := h
 obtain ⟨A, c, rfl, h1, h2⟩ := h.form
 obtain ⟨i0, hi0, hz0, hz1', hz2⟩ := info_parts infoString
 have HBD := Lib.hid hbd
 clear hbd
 have hown0 : (w.alloc (.cells #[.string s] 9)).ownsRow w.heap.size 9 1 (.slice (some ⟨w.heap.size, 0, none⟩) 1 1) 1 [.string s] := row_all w #[.string s] 1 rfl (by simp [maxLen])
 have hb0 : Below w.heap.size w (w.alloc (.cells #[.string s] 9)) := (Below.refl _ _).alloc (Nat.le_refl _) _
 go_enter Tryz.func18, Tryz.ntmps18
 go_wp2_with fail
 go_loopw [5, 12] (fun q i wr => ∃ k : Nat, k ≤ l.length ∧ i = .int .i64 k ∧ wr.ownsRow w.heap.size 9 1 q (k + 1) ((s :: (l.take k).map numS).flatMap cStr) ∧ Below w.heap.size w wr) (fun _ i _ => l.length - (intOf i).toNat)
 case atStart => exact ⟨0, Nat.zero_le _, rfl, by simpa [cStr] using hown0, hb0⟩
 case round =>
  obtain ⟨k, hk, rfl, hown, hb⟩ := hrel
  clear hown0 hb0
  have hz := hb.size
  obtain ⟨Aq, cq, rfl, _, _⟩ := (RdS.of_own hown).form
  by_cases hlt : k < l.length
  ·obtain ⟨g, off, rfl, hg, hc⟩ := (h0.below hb).cell cInt_len (by omega) hlt
   have k0 := hc 0 _ rfl
   simp only [Nat.add_zero, Nat.mul_one] at k0
   clear hc
   have HB := HBD.out l[k] (List.getElem_mem hlt)
   have hlo := HB.1
   have hhi := HB.2
   have HN : Hid ((s :: (l.take (k + 1)).map numS).flatMap cStr = (s :: (l.take k).map numS).flatMap cStr ++ [.string (numS l[k])]) := by
    show _ = _
    have e : (s :: (l.take (k + 1)).map numS) = (s :: (l.take k).map numS) ++ [numS l[k]] := by rw [take_snoc_l l hlt, List.map_append]; rfl
    rw [e, List.flatMap_append]; rfl
   clear HB
   generalize l[k] = x at *
   go_wp2_with fail
   refine (implFormatInt_any x wr hlo hhi (ht.below hb)).mono ?_
   rintro e w1 ⟨rfl, hb1⟩
   have hown1 := own_below hown hb1
   have hbb := bl_trans hb hb1
   have hz1 := hbb.size
   clear hown hb1 k0 hlo hhi
   generalize numS x = t at *
   go_wp2_with (at_builtin; go_must (refine wpList_appendR _ rfl (.tmp 16) (.tmp 19) _ rfl w.heap.size 9 i0 _ 1 16 Tryz.underlying37 hi0 hz0 hz1' hz2 rfl (by omega) _ (k + 1) ((s :: (l.take k).map numS).flatMap cStr) rfl (hown1.alloc _) _ 1 [.string t] rfl (rdS_new w1 #[.string t] _ 1 1 rfl (by simp [maxLen])) (by simp [Value.oneCell']) (by simp [maxLen]; omega) (by omega) (by simp; omega) ?_); intro v3 w3 hown3 hgr3)
   have hb3 : Below w.heap.size w w3 := (hbb.alloc hbb.size _).trans (below_own (hown1.alloc (.cells #[.string t] 9)) hgr3 (by simp; omega))
   go_wp2_with fail
   go_roundw
   case rel => exact ⟨k + 1, by omega, by go_num, by rw [HN.out]; exact hown3, hb3⟩
   case measure => simp [intOf]; omega
  ·obtain rfl : k = l.length := by omega
   rw [List.take_length] at hown
   have hr : RdS wr 1 (.slice Aq (l.length + 1) cq) (l.length + 1) ((s :: l.map numS).flatMap cStr) := RdS.of_own hown
   have hcc : l.length + 1 ≤ cq := by obtain ⟨A', c', e, h3, _⟩ := hr.form; cases e; exact h3
   obtain ⟨g, off, rfl, hg, hcell⟩ := RdS.at_ hr (by omega) (by omega)
   have hxs : ∀ (j : Nat) (x : ByteArray), (s :: l.map numS)[j]? = some x → wr.cell? ⟨g, off + j, none⟩ = some (.string x) := fun j x hj => hcell j _ (by rw [flat_str, List.getElem?_map, hj]; rfl)
   have hlen : (s :: l.map numS).length = l.length + 1 := by simp
   have HJ : Hid ((⟨(Lib.join ((s :: l.map numS).map (·.data.toList)) [32]).toArray⟩ : ByteArray) = lineS s l) := by
    refine ba_ext ?_
    rw [lineS_list, join_jn, List.map_cons, List.map_map, baL_list']
    rfl
   have hsz : (Lib.join ((s :: l.map numS).map (·.data.toList)) [32]).length ≤ 140737488355328 := by
    have h3 := congrArg ByteArray.size HJ.out
    have h4 := lineS_size s l HBD.out
    have h5 : (⟨(Lib.join ((s :: l.map numS).map (·.data.toList)) [32]).toArray⟩ : ByteArray).size = (Lib.join ((s :: l.map numS).map (·.data.toList)) [32]).length := List.size_toArray
    omega
   have hJ := lib_strings_Join g off cq (s :: l.map numS) ⟨#[32]⟩ wr hxs hg (by omega) (by omega) hsz
   rw [hlen] at hJ
   have hJ2 : Calls Tryz.prog 39 #[.slice (some ⟨g, off, none⟩) (l.length + 1) cq, .string ⟨#[32]⟩] wr fun e w' => e = .returned (.string (lineS s l)) ∧ Below wr.heap.size wr w' := hJ.mono fun e w' ⟨he, hw⟩ => ⟨by rw [he]; exact congrArg (fun x => Ending.returned (.string x)) HJ.out, hw⟩
   have HJ2 := Lib.hid hJ2
   clear hJ hJ2 hsz hlen hxs hcell hr hcc hown
   go_wp2_with (go_at_call 39; refine HJ2.out.mono ?_; rintro e w1 ⟨rfl, hb1⟩; skip)
   go_ret
   exact ⟨rfl, bl_trans hb hb1⟩
end Go.Proofs.YteidpejjjphecaaGreatDoor
