/- Lemmas and contracts that this claim's theorem rests on. Conditions: those that each states. -/
import Derived.Test.YtkbacoadejglkaaGreatDoorShelf
import Derived.Lib.AppendIntMem
import Derived.Laws.IdiomStrings
import Derived.Deep.DeepCutAuto
import Derived.IntWalk
import Derived.Test.YtkbacoadejglkaaGreatDoorBdH3x3
import Derived.Test.YtkbacoadejglkaaGreatDoorBdM7x3
namespace Go.Proofs.YtkbacoadejglkaaGreatDoor
set_option maxHeartbeats 16000000
set_option maxRecDepth 100000
open Go.RowKit
def zhr (w : World) : Prop := Lib.TabIs Tryz.prog w "internal/strconv.uint64pow10" .u64 Lib.pow10Tab
theorem zhr.below {w w' : World} (h : zhr w) (hb : Below w.heap.size w w') : zhr w' := by
 unfold zhr Lib.TabIs World.var? at *
 cases hg : Tryz.prog.globalNamed "internal/strconv.uint64pow10" with
 | none => rw [hg] at h; exact h
 | some g =>
  rw [hg] at h
  simp only [Option.bind_some] at h ⊢
  have hlt : g < w.heap.size := by
   rcases Nat.lt_or_ge g w.heap.size with h1 | h1
   ·exact h1
   ·rw [Array.getElem?_eq_none h1] at h; cases h
  rw [hb.block g hlt]; exact h
theorem zu3 : numS ((0 : Nat) : Int) = ⟨#[48]⟩ := zfx (by rw [zc2, zdh, zhn (by omega)]; rfl)
theorem zm5 {e : TypeId} {size : Nat} (w : World) (cs : Array Value) (n : Nat) (hs : cs.size = n * size) (hm : n <= maxLen) : (w.alloc (.cells cs e)).ownsRow w.heap.size e size (.slice (some ⟨w.heap.size, 0, none⟩) n n) n cs.toList :=
 ⟨by simpa using hs, .inr ⟨w.heap.size, n, cs, rfl, Nat.le_refl _, heap_alloc_new w _, Nat.le_refl _, hm, hs, by rw [<- hs]; exact List.take_of_length_le (Nat.le_of_eq (by simp))⟩⟩
theorem zou (l : List UInt8) : (⟨l.toArray⟩ : ByteArray).data.toList = l := by simp
theorem zie (l : List ByteArray) : l.flatMap cStr = l.map Value.string := by
 induction l with
 | nil => rfl
 | cons x l ih => rw [List.flatMap_cons, ih]; rfl
theorem zeb (s : ByteArray) (l : List Int) (h : ∀ n ∈ l, -9223372036854775808 <= n /\ n <= 9223372036854775807) : (za6 s l).size <= s.size + 22 * l.length := by
 unfold za6
 induction l generalizing s with
 | nil => simp
 | cons n l ih =>
  rw [List.foldl_cons, List.length_cons]; have h1 := ih (addN s n) (fun x hx => h x (List.mem_cons_of_mem _ hx))
  have h2 := zb0 n (h n List.mem_cons_self)
  have h3 : (addN s n).size = s.size + 1 + (numS n).size := by
   unfold addN; rw [ByteArray.size_append, ByteArray.size_append]; rfl
  omega
theorem zb3 (n : Int) (w : World) (h0 : -9223372036854775808 <= n) (h1 : n <= 9223372036854775807) (ht : zhr w) :
  Calls Tryz.prog 20 #[.int .i64 n] w fun e w' => e = .returned (.string (numS n)) /\ Below w.heap.size w w' := by
 go_enter Tryz.func20, Tryz.ntmps20
 go_wp2_with (go_at_call 43; refine (lib_strconv_Itoa n h0 h1 _ ht).mono ?_; rintro e w' ⟨rfl, k, os, rfl⟩; skip)
 go_ret
 exact ⟨rfl, Lib.below_grow _ _ (Nat.le_refl _) _ _⟩
theorem zso (d : Nat) (w : World) (h : d < 10) :
  Calls Tryz.prog 30 #[.int .i64 d] w fun e w' => e = .returned (.int .u8 (48 + d : Int)) /\ w = w' := by
 have h' : (d : Int) < 10 := by omega
 have hw : IntKind.u8.wrap (48 + (d : Int)) = 48 + (d : Int) := by unfold IntKind.wrap; simp [IntKind.bits, IntKind.signed]; omega
 go_enter Tryz.func30, Tryz.ntmps30
 go_wp2_with fail; go_ret; exact ⟨rfl, rfl⟩
theorem zaz (n : Nat) (w : World) (h1 : n <= 1000000000000000000) :
  Calls Tryz.prog 13 #[.int .i64 n] w fun e w' => e = .returned (.string (numS n)) /\ Below w.heap.size w w' := by
 have hdl : (Lib.decDigits n).length <= 21 := by
  have := Lib.itoa_length_le n (by omega) (by omega)
  rwa [zdh] at this
 have Hdl := Lib.hid hdl; clear hdl
 by_cases h0 : n = 0
 ·subst h0
  go_enter Tryz.func13, Tryz.ntmps13
  go_wp2_with fail; go_ret; exact ⟨congrArg (fun x => Ending.returned (.string x)) zu3.symm, Below.refl _ _⟩
 ·have hz : ((n : Int) == 0) = false := by rw [beq_eq_false_iff_ne]; omega
  have hn : ¬ (n : Int) < 0 := by omega
  go_enter Tryz.func13, Tryz.ntmps13
  go_wp2_with fail
  go_loopw [0, 4] (fun v s wr => ∃ (q : Nat) (t : ByteArray), v = .int .i64 q /\ s = .string t /\ q <= n /\ t.size <= 21 /\ Hid (Lib.decDigits n = (if q = 0 then [] else Lib.decDigits q) ++ t.data.toList) /\ Below w.heap.size w wr) (fun v _ _ => (intOf v).toNat)
  case atStart => exact ⟨n, ByteArray.empty, rfl, rfl, Nat.le_refl _, by decide, by show _ = _; rw [if_neg h0]; simp, Below.refl _ _⟩
  case round =>
   obtain ⟨q, t, rfl, rfl, hq, hts, hd, hb⟩ := hrel; have hzw := hb.size; clear hz hn
   by_cases hq0 : q = 0
   ·subst hq0
    obtain rfl : t = numS n := zfx (by rw [zc2, zdh, hd.out]; rfl)
    clear hd; go_wp2_with fail; go_ret; exact ⟨rfl, hb⟩
   ·have hz : ((q : Int) != 0) = true := by rw [bne_iff_ne]; omega
    obtain ⟨d, hdd⟩ : ∃ d : Nat, (q : Int) % 10 = (d : Int) := ⟨q % 10, by omega⟩
    have hd10 : d < 10 := by omega
    have hdn : ¬ (d : Int) < 0 := by omega
    have hwq : IntKind.i64.wrap ((q : Int).tdiv 10) = ((q / 10 : Nat) : Int) := by rw [Int.tdiv_eq_ediv_of_nonneg (by omega), show (q : Int) / 10 = ((q / 10 : Nat) : Int) by omega]; exact IntWalk.i64_in _ (by omega)
    have e1 := hd.out; rw [if_neg hq0] at e1
    have HN : Hid (Lib.decDigits n = (if q / 10 = 0 then [] else Lib.decDigits (q / 10)) ++ (baL [UInt8.ofNat (48 + d)] ++ t).data.toList) := by
     show _ = _
     rw [e1, ByteArray.data_append, Array.toList_append, zd7, show d = q % 10 by omega]
     by_cases h10 : q < 10
     ·rw [zhn h10, if_pos (by omega), show q % 10 = q by omega]; simp
     ·rw [zh2 h10, if_neg (by omega)]; simp
    have hts' : (baL [UInt8.ofNat (48 + d)] ++ t).size <= 21 := by
     have h2 := congrArg List.length HN.out; rw [List.length_append] at h2; have h3 : (baL [UInt8.ofNat (48 + d)] ++ t).data.toList.length = (baL [UInt8.ofNat (48 + d)] ++ t).size := by simp
     have := Hdl.out
     omega
    have hbs : (baL [UInt8.ofNat (48 + d)]).size = 1 := rfl; have hts1 : ¬ 9223372036854775807 < (baL [UInt8.ofNat (48 + d)]).size + t.size := by omega
    have hcv : (convert 57 9 (.slice (some ⟨wr.heap.size, 0, none⟩) 1 1)).run Tryz.prog (wr.alloc (.cells #[.int .u8 (48 + (d : Int))] 5)) = .ok (.string (baL [UInt8.ofNat (48 + d)])) (wr.alloc (.cells #[.int .u8 (48 + (d : Int))] 5)) :=
     run_convert_bytes_back _ _ _ _ ⟨wr.heap.size, 0, none⟩ 1 [UInt8.ofNat (48 + d)] Tryz.underlying57 Tryz.underlying5 Tryz.underlying9 (fun j hj => by
      obtain rfl : j = 0 := by simpa using hj
      simp [go_sem]
      omega)
    clear e1 hbs hd
    go_upto_region 7 with (fail)
    (try rw [hdd])
    clear hdd; generalize (baL [UInt8.ofNat (48 + d)]) = c1 at *
    go_wp2_with fail; refine (zso d _ hd10).mono ?_; rintro e w' ⟨rfl, rfl⟩; go_wp2_with fail; go_roundw
    case rel => exact ⟨q / 10, c1 ++ t, rfl, rfl, by omega, hts', HN, bL⟩
    case measure => simp [intOf]; omega
theorem zcy (s : ByteArray) (v : Value) (l : List Int) (w : World) (h : RdL cInt 1 w v l) (hs : s.size <= 10) (hl : l.length <= 60) (hbd : ∀ n ∈ l, -9223372036854775808 <= n /\ n <= 9223372036854775807) (ht : zhr w) :
  Calls Tryz.prog 44 #[.string s, v] w fun e w' => e = .returned (.string (za6 s l)) /\ Below w.heap.size w w' := by
 have h0 := h; obtain ⟨A, c, rfl, h1, h2⟩ := h.form; obtain ⟨i0, hi0, hz0, hz1', hz2⟩ := info_parts zdb; have HBD := Lib.hid hbd; clear hbd; have hown0 : (w.alloc (.cells #[.string s] 9)).ownsRow w.heap.size 9 1 (.slice (some ⟨w.heap.size, 0, none⟩) 1 1) 1 [.string s] := zm5 w #[.string s] 1 rfl (by simp [maxLen])
 have hb0 : Below w.heap.size w (w.alloc (.cells #[.string s] 9)) := (Below.refl _ _).alloc (Nat.le_refl _) _
 go_enter Tryz.func44, Tryz.ntmps44
 go_wp2_with fail
 go_loopw [5, 12] (fun q i wr => ∃ k : Nat, k <= l.length /\ i = .int .i64 k /\ wr.ownsRow w.heap.size 9 1 q (k + 1) ((s :: (l.take k).map numS).flatMap cStr) /\ Below w.heap.size w wr) (fun _ i _ => l.length - (intOf i).toNat)
 case atStart => exact ⟨0, Nat.zero_le _, rfl, by simpa [cStr] using hown0, hb0⟩
 case round =>
  obtain ⟨k, hk, rfl, hown, hb⟩ := hrel; clear hown0 hb0; have hz := hb.size; obtain ⟨Aq, cq, rfl, _, _⟩ := (RdS.of_own hown).form
  by_cases hlt : k < l.length
  ·obtain ⟨g, off, rfl, hg, hc⟩ := (h0.below hb).cell zat (by omega) hlt
   have k0 := hc 0 _ rfl
   simp only [Nat.add_zero, Nat.mul_one] at k0
   clear hc; have HB := HBD.out l[k] (List.getElem_mem hlt); have hlo := HB.1; have hhi := HB.2
   have HN : Hid ((s :: (l.take (k + 1)).map numS).flatMap cStr = (s :: (l.take k).map numS).flatMap cStr ++ [.string (numS l[k])]) := by
    show _ = _
    have e : (s :: (l.take (k + 1)).map numS) = (s :: (l.take k).map numS) ++ [numS l[k]] := by rw [zbm l hlt, List.map_append]; rfl
    rw [e, List.flatMap_append]; rfl
   clear HB; generalize l[k] = x at *
   go_wp2_with fail; refine (zb3 x wr hlo hhi (ht.below hb)).mono ?_; rintro e w1 ⟨rfl, hb1⟩; have hown1 := zac hown hb1; have hbb := zab hb hb1; have hz1 := hbb.size; clear hown hb1 k0 hlo hhi; generalize numS x = t at *
   go_wp2_with (at_builtin; go_must (refine zaf _ rfl (.tmp 16) (.tmp 19) _ rfl w.heap.size 9 i0 _ 1 16 Tryz.underlying22 hi0 hz0 hz1' hz2 rfl (by omega) _ (k + 1) ((s :: (l.take k).map numS).flatMap cStr) rfl (hown1.alloc _) _ 1 [.string t] rfl (zap w1 #[.string t] _ 1 1 rfl (by simp [maxLen])) (by simp [Value.oneCell']) (by simp [maxLen]; omega) (by omega) (by simp; omega) ?_); intro v3 w3 hown3 hgr3)
   have hb3 : Below w.heap.size w w3 := (hbb.alloc hbb.size _).trans (zag (hown1.alloc (.cells #[.string t] 9)) hgr3 (by simp; omega))
   go_wp2_with fail; go_roundw
   case rel => exact ⟨k + 1, by omega, by go_num, by rw [HN.out]; exact hown3, hb3⟩
   case measure => simp [intOf]; omega
  ·obtain rfl : k = l.length := by omega
   rw [List.take_length] at hown; have hr : RdS wr 1 (.slice Aq (l.length + 1) cq) (l.length + 1) ((s :: l.map numS).flatMap cStr) := RdS.of_own hown; have hcc : l.length + 1 <= cq := by obtain ⟨A', c', e, h3, _⟩ := hr.form; cases e; exact h3
   obtain ⟨g, off, rfl, hg, hcell⟩ := RdS.at_ hr (by omega) (by omega)
   have hxs : ∀ (j : Nat) (x : ByteArray), (s :: l.map numS)[j]? = some x -> wr.cell? ⟨g, off + j, none⟩ = some (.string x) := fun j x hj => hcell j _ (by rw [zie, List.getElem?_map, hj]; rfl)
   have hlen : (s :: l.map numS).length = l.length + 1 := by simp
   have HJ : Hid ((⟨(Lib.join ((s :: l.map numS).map (·.data.toList)) [32]).toArray⟩ : ByteArray) = za6 s l) := by
    refine zfx ?_; rw [zl8, zmm, List.map_cons, List.map_map, zou]
    rfl
   have hsz : (Lib.join ((s :: l.map numS).map (·.data.toList)) [32]).length <= 140737488355328 := by
    have h3 := congrArg ByteArray.size HJ.out; have h4 := zeb s l HBD.out; have h5 : (⟨(Lib.join ((s :: l.map numS).map (·.data.toList)) [32]).toArray⟩ : ByteArray).size = (Lib.join ((s :: l.map numS).map (·.data.toList)) [32]).length := List.size_toArray
    omega
   have hJ := lib_strings_Join g off cq (s :: l.map numS) ⟨#[32]⟩ wr hxs hg (by omega) (by omega) hsz
   rw [hlen] at hJ; have hJ2 : Calls Tryz.prog 38 #[.slice (some ⟨g, off, none⟩) (l.length + 1) cq, .string ⟨#[32]⟩] wr fun e w' => e = .returned (.string (za6 s l)) /\ Below wr.heap.size wr w' := hJ.mono fun e w' ⟨he, hw⟩ => ⟨by rw [he]; exact congrArg (fun x => Ending.returned (.string x)) HJ.out, hw⟩
   have HJ2 := Lib.hid hJ2; clear hJ hJ2 hsz hlen hxs hcell hr hcc hown
   go_wp2_with (go_at_call 38; refine HJ2.out.mono ?_; rintro e w1 ⟨rfl, hb1⟩; skip)
   go_ret
   exact ⟨rfl, zab hb hb1⟩
theorem zw9 {k a b : Int} (h : actB k a b = true) : actS (k, a, b) = za6 (zlm k) (zpv k a b) := if_pos h
theorem zxf {k a b : Int} (h : actB k a b = false) : actS (k, a, b) = ByteArray.empty := if_neg (by rw [h]; simp)
theorem zd2 {s t : ByteArray} {b c : Bool} (h : s = t) (h2 : b = c) : Ending.returned (.tuple #[.string s, .bool b]) = .returned (.tuple #[.string t, .bool c]) := by rw [h, h2]
theorem zjf (k a b : Int) (w : World) (ht : zhr w) :
  Calls Tryz.prog 37 #[.agg #[.int .i64 k, .int .i64 a, .int .i64 b]] w fun e w' => e = .returned (.tuple #[.string (actS (k, a, b)), .bool (actB k a b)]) /\ Below w.heap.size w w' := by
 have hal : Below w.heap.size w (w.alloc (.cells #[.int .i64 k, .int .i64 a, .int .i64 b] 30)) := (Below.refl _ _).alloc (Nat.le_refl _) _; have L0 : Loc (w.alloc (.cells #[.int .i64 k, .int .i64 a, .int .i64 b] 30)) w.heap.size [.int .i64 k, .int .i64 a, .int .i64 b] := Loc.new w #[.int .i64 k, .int .i64 a, .int .i64 b] 30
 go_enter Tryz.func37, Tryz.ntmps37
 go_wp2_with fail; refine twoB (zh5 k a b _) (fun w1 hq hb1 => ?_) (fun w1 hq hb1 => ?_)
 ·have L := L0.below hb1
  have hb2 := zab hal hb1; have T1 := ht.below hb2; obtain ⟨b0, b1, b2⟩ := L.a3; have hbd := zu4 hq.out; have hz := hb2.size; have HA := Lib.hid (zw9 hq.out); clear L L0 hb1 hal
  rcases zqn hq.out with rfl | rfl | rfl | rfl | rfl | rfl | rfl
  ·have hal : Below w1.heap.size w1 (w1.alloc (.cells #[.int .i64 a] 3)) := (Below.refl _ _).alloc (Nat.le_refl _) _
   have hC : Calls Tryz.prog 44 #[.string zi8, .slice (some ⟨w1.heap.size, 0, none⟩) 1 1] (w1.alloc (.cells #[.int .i64 a] 3)) _ := zcy zi8 _ [a] (w1.alloc (.cells #[.int .i64 a] 3)) (zap w1 #[.int .i64 a] _ 1 1 rfl (by simp [maxLen])) (by decide) (by simp) (by intro n hn; simp at hn; omega) (T1.below hal)
   have HC := Lib.hid hC; have HB := Lib.hid (zab hb2 hal); clear hC hal hbd T1; go_wp2_with fail; refine HC.out.mono ?_; rintro e w2 ⟨rfl, hb3⟩; go_wp2_with fail; go_ret2; exact ⟨zd2 HA.out.symm hq.out.symm, zab HB.out hb3⟩
  ·have hal : Below w1.heap.size w1 (w1.alloc (.cells #[.int .i64 a, .int .i64 b] 3)) := (Below.refl _ _).alloc (Nat.le_refl _) _
   have hC : Calls Tryz.prog 44 #[.string zfk, .slice (some ⟨w1.heap.size, 0, none⟩) 2 2] (w1.alloc (.cells #[.int .i64 a, .int .i64 b] 3)) _ := zcy zfk _ [a, b] (w1.alloc (.cells #[.int .i64 a, .int .i64 b] 3)) (zap w1 #[.int .i64 a, .int .i64 b] _ 1 2 rfl (by simp [maxLen])) (by decide) (by simp) (by intro n hn; simp at hn; omega) (T1.below hal)
   have HC := Lib.hid hC; have HB := Lib.hid (zab hb2 hal); clear hC hal hbd T1; go_wp2_with fail; refine HC.out.mono ?_; rintro e w2 ⟨rfl, hb3⟩; go_wp2_with fail; go_ret2; exact ⟨zd2 HA.out.symm hq.out.symm, zab HB.out hb3⟩
  ·have hal : Below w1.heap.size w1 (w1.alloc (.cells #[.int .i64 a] 3)) := (Below.refl _ _).alloc (Nat.le_refl _) _
   have hC : Calls Tryz.prog 44 #[.string zfh, .slice (some ⟨w1.heap.size, 0, none⟩) 1 1] (w1.alloc (.cells #[.int .i64 a] 3)) _ := zcy zfh _ [a] (w1.alloc (.cells #[.int .i64 a] 3)) (zap w1 #[.int .i64 a] _ 1 1 rfl (by simp [maxLen])) (by decide) (by simp) (by intro n hn; simp at hn; omega) (T1.below hal)
   have HC := Lib.hid hC; have HB := Lib.hid (zab hb2 hal); clear hC hal hbd T1; go_wp2_with fail; refine HC.out.mono ?_; rintro e w2 ⟨rfl, hb3⟩; go_wp2_with fail; go_ret2; exact ⟨zd2 HA.out.symm hq.out.symm, zab HB.out hb3⟩
  ·have hal : Below w1.heap.size w1 (w1.alloc (.cells #[.int .i64 a] 3)) := (Below.refl _ _).alloc (Nat.le_refl _) _
   have hC : Calls Tryz.prog 44 #[.string ziv, .slice (some ⟨w1.heap.size, 0, none⟩) 1 1] (w1.alloc (.cells #[.int .i64 a] 3)) _ := zcy ziv _ [a] (w1.alloc (.cells #[.int .i64 a] 3)) (zap w1 #[.int .i64 a] _ 1 1 rfl (by simp [maxLen])) (by decide) (by simp) (by intro n hn; simp at hn; omega) (T1.below hal)
   have HC := Lib.hid hC; have HB := Lib.hid (zab hb2 hal); clear hC hal hbd T1; go_wp2_with fail; refine HC.out.mono ?_; rintro e w2 ⟨rfl, hb3⟩; go_wp2_with fail; go_ret2; exact ⟨zd2 HA.out.symm hq.out.symm, zab HB.out hb3⟩
  ·clear hbd T1
   go_wp2_with fail; go_ret2; exact ⟨zd2 HA.out.symm hq.out.symm, hb2⟩
  ·have hal : Below w1.heap.size w1 (w1.alloc (.cells #[.int .i64 a] 3)) := (Below.refl _ _).alloc (Nat.le_refl _) _
   have hC : Calls Tryz.prog 44 #[.string zir, .slice (some ⟨w1.heap.size, 0, none⟩) 1 1] (w1.alloc (.cells #[.int .i64 a] 3)) _ := zcy zir _ [a] (w1.alloc (.cells #[.int .i64 a] 3)) (zap w1 #[.int .i64 a] _ 1 1 rfl (by simp [maxLen])) (by decide) (by simp) (by intro n hn; simp at hn; omega) (T1.below hal)
   have HC := Lib.hid hC; have HB := Lib.hid (zab hb2 hal); clear hC hal hbd T1; go_wp2_with fail; refine HC.out.mono ?_; rintro e w2 ⟨rfl, hb3⟩; go_wp2_with fail; go_ret2; exact ⟨zd2 HA.out.symm hq.out.symm, zab HB.out hb3⟩
  ·clear hbd T1
   go_wp2_with fail; go_ret2; exact ⟨zd2 HA.out.symm hq.out.symm, hb2⟩
 ·go_wp2_with fail
  go_ret2
  exact ⟨zd2 (zxf hq.out).symm hq.out.symm, zab hal hb1⟩
theorem zfs (a b : Int) (w1 : World) : ∃ wx, (((w1.alloc (.cells #[.string ⟨#[]⟩, .string ⟨#[104, 105, 114, 101]⟩, .string ⟨#[116, 101, 97, 99, 104]⟩, .string ⟨#[102, 114, 111, 110, 116]⟩, .string ⟨#[98, 97, 99, 107]⟩, .string ⟨#[111, 114, 100, 101, 114]⟩, .string ⟨#[115, 104, 111, 119]⟩, .string ⟨#[119, 104, 121]⟩] 9)).alloc (.cells #[.int .i64 0, .int .i64 1, .int .i64 2, .int .i64 1, .int .i64 1, .int .i64 0, .int .i64 1, .int .i64 0] 3)).alloc (.cells #[.int .i64 a, .int .i64 b] 3)) = wx /\ Below w1.heap.size w1 wx /\ Loc wx (w1.heap.size + 1 + 1) [.int .i64 a, .int .i64 b] :=
 ⟨_, rfl, bM, by have := Loc.new ((w1.alloc (.cells #[.string ⟨#[]⟩, .string ⟨#[104, 105, 114, 101]⟩, .string ⟨#[116, 101, 97, 99, 104]⟩, .string ⟨#[102, 114, 111, 110, 116]⟩, .string ⟨#[98, 97, 99, 107]⟩, .string ⟨#[111, 114, 100, 101, 114]⟩, .string ⟨#[115, 104, 111, 119]⟩, .string ⟨#[119, 104, 121]⟩] 9)).alloc (.cells #[.int .i64 0, .int .i64 1, .int .i64 2, .int .i64 1, .int .i64 1, .int .i64 0, .int .i64 1, .int .i64 0] 3)) #[.int .i64 a, .int .i64 b] 3; simpa using this⟩
theorem zin (k a b : Int) (w : World) :
  Calls Tryz.prog 25 #[.agg #[.int .i64 k, .int .i64 a, .int .i64 b]] w fun e w' => e = .returned (.tuple #[.string (actS (k, a, b)), .bool (actB k a b)]) /\ Below w.heap.size w w' := by
 have hal : Below w.heap.size w (w.alloc (.cells #[.int .i64 k, .int .i64 a, .int .i64 b] 30)) := (Below.refl _ _).alloc (Nat.le_refl _) _; have L0 : Loc (w.alloc (.cells #[.int .i64 k, .int .i64 a, .int .i64 b] 30)) w.heap.size [.int .i64 k, .int .i64 a, .int .i64 b] := Loc.new w #[.int .i64 k, .int .i64 a, .int .i64 b] 30
 go_enter Tryz.func25, Tryz.ntmps25
 go_wp2_with fail; refine twoB (zh7 k a b _) (fun w1 hq hb1 => ?_) (fun w1 hq hb1 => ?_)
 ·have L := L0.below hb1
  have hb2 := zab hal hb1; have hbd := zu4 hq.out; have hz := hb2.size; have HA := Lib.hid (zw9 hq.out); obtain ⟨g, hg⟩ : ∃ g, w.heap.size = g := ⟨_, rfl⟩; rw [hg] at L ⊢; obtain ⟨b0, b1, b2⟩ := L.a3; have hgz : g < w1.heap.size := World.block_lt_of_cell? w1 _ b0; clear L0 hb1 hal
  rcases zqn hq.out with rfl | rfl | rfl | rfl | rfl | rfl | rfl
  ·go_upto_region 6 with (fail)
   obtain ⟨wx, hwx, hV, LX⟩ := zfs a b w1; rw [hwx]; obtain ⟨gx, hgx⟩ : ∃ gx, w1.heap.size + 1 + 1 = gx := ⟨_, rfl⟩; rw [hgx] at LX; replace hb2 := zab hb2 hV
   (try rw [hgx])
   clear hwx hgx hV L b0 b1 b2 hz; go_wp2_with fail
   go_loopw [4, 7] (fun s i wr => ∃ j : Nat, j <= 1 /\ i = .int .i64 j /\ s = .string (za6 zi8 (([a] : List Int).take j)) /\ Below wx.heap.size wx wr) (fun _ i _ => 1 - (intOf i).toNat)
   case atStart => exact ⟨0, Nat.zero_le _, rfl, rfl, Below.refl _ _⟩
   case round =>
    obtain ⟨j, hj, rfl, rfl, hbr⟩ := hrel; have x0 := ((LX.below hbr) 0 _ rfl).1; have x1 := ((LX.below hbr) 1 _ rfl).1
    by_cases hlt : j < 1
    ·obtain ⟨m, hm3, xj, HS⟩ : ∃ m : Nat, m <= 1000 /\ wr.cell? ⟨gx, j, none⟩ = some (.int .i64 (m : Int)) /\ Hid ((za6 zi8 (([a] : List Int).take j) ++ spc1) ++ numS (m : Int) = za6 zi8 (([a] : List Int).take (j + 1))) := by
      obtain rfl : j = 0 := by omega
      obtain ⟨m, hm⟩ := Int.eq_ofNat_of_zero_le (show 0 <= a by omega)
      exact ⟨m, by omega, by rw [<- hm]; exact x0, by rw [<- hm]; rfl⟩
     have hs1 := zeb zi8 (([a] : List Int).take j) (fun n hn => by have := List.mem_of_mem_take hn; simp at this; omega)
     have hw5 : (zi8).size <= 5 := by decide
     have hn1 := zb0 (m : Int) (by omega)
     have hl : (([a] : List Int).take j).length <= 2 := by rw [List.length_take]; omega
     have HS1 := HS; clear HS; generalize za6 zi8 (([a] : List Int).take j) = s0 at *
     have hz1 : (s0 ++ spc1).size = s0.size + 1 := by rw [ByteArray.size_append]; rfl
     have hz0 : s0.size <= 60 := by omega
     have hz2 : ¬ 9223372036854775807 < s0.size + 1 := by omega
     have hz3 : ¬ 9223372036854775807 < (s0 ++ spc1).size + (numS m).size := by omega
     clear hs1 hz1 hl x0 x1; have hcF := zaz m wr (by omega)
     have hi0 : (0 : Int) <= (j : Int) := by omega
     go_wp2_with fail; refine hcF.mono ?_; rintro e w3 ⟨rfl, hb3⟩; go_wp2_with fail; go_roundw
     case rel => exact ⟨j + 1, by omega, by go_num, congrArg Value.string HS1.out, zab hbr hb3⟩
     case measure => simp [intOf]; omega
    ·obtain rfl : j = 1 := by omega
     go_wp2_with fail; go_ret2; exact ⟨zd2 HA.out.symm hq.out.symm, zab hb2 hbr⟩
  ·go_upto_region 6 with (fail)
   obtain ⟨wx, hwx, hV, LX⟩ := zfs a b w1; rw [hwx]; obtain ⟨gx, hgx⟩ : ∃ gx, w1.heap.size + 1 + 1 = gx := ⟨_, rfl⟩; rw [hgx] at LX; replace hb2 := zab hb2 hV
   (try rw [hgx])
   clear hwx hgx hV L b0 b1 b2 hz; go_wp2_with fail
   go_loopw [4, 7] (fun s i wr => ∃ j : Nat, j <= 2 /\ i = .int .i64 j /\ s = .string (za6 zfk (([a, b] : List Int).take j)) /\ Below wx.heap.size wx wr) (fun _ i _ => 2 - (intOf i).toNat)
   case atStart => exact ⟨0, Nat.zero_le _, rfl, rfl, Below.refl _ _⟩
   case round =>
    obtain ⟨j, hj, rfl, rfl, hbr⟩ := hrel; have x0 := ((LX.below hbr) 0 _ rfl).1; have x1 := ((LX.below hbr) 1 _ rfl).1
    by_cases hlt : j < 2
    ·obtain ⟨m, hm3, xj, HS⟩ : ∃ m : Nat, m <= 1000 /\ wr.cell? ⟨gx, j, none⟩ = some (.int .i64 (m : Int)) /\ Hid ((za6 zfk (([a, b] : List Int).take j) ++ spc1) ++ numS (m : Int) = za6 zfk (([a, b] : List Int).take (j + 1))) := by
      by_cases h0 : j = 0
      ·subst h0
       obtain ⟨m, hm⟩ := Int.eq_ofNat_of_zero_le (show 0 <= a by omega)
       exact ⟨m, by omega, by rw [<- hm]; exact x0, by rw [<- hm]; rfl⟩
      ·obtain rfl : j = 1 := by omega
       obtain ⟨m, hm⟩ := Int.eq_ofNat_of_zero_le (show 0 <= b by omega)
       exact ⟨m, by omega, by rw [<- hm]; exact x1, by rw [<- hm]; rfl⟩
     have hs1 := zeb zfk (([a, b] : List Int).take j) (fun n hn => by have := List.mem_of_mem_take hn; simp at this; omega)
     have hw5 : (zfk).size <= 5 := by decide
     have hn1 := zb0 (m : Int) (by omega)
     have hl : (([a, b] : List Int).take j).length <= 2 := by rw [List.length_take]; omega
     have HS1 := HS; clear HS; generalize za6 zfk (([a, b] : List Int).take j) = s0 at *
     have hz1 : (s0 ++ spc1).size = s0.size + 1 := by rw [ByteArray.size_append]; rfl
     have hz0 : s0.size <= 60 := by omega
     have hz2 : ¬ 9223372036854775807 < s0.size + 1 := by omega
     have hz3 : ¬ 9223372036854775807 < (s0 ++ spc1).size + (numS m).size := by omega
     clear hs1 hz1 hl x0 x1; have hcF := zaz m wr (by omega)
     have hi0 : (0 : Int) <= (j : Int) := by omega
     go_wp2_with fail; refine hcF.mono ?_; rintro e w3 ⟨rfl, hb3⟩; go_wp2_with fail; go_roundw
     case rel => exact ⟨j + 1, by omega, by go_num, congrArg Value.string HS1.out, zab hbr hb3⟩
     case measure => simp [intOf]; omega
    ·obtain rfl : j = 2 := by omega
     go_wp2_with fail; go_ret2; exact ⟨zd2 HA.out.symm hq.out.symm, zab hb2 hbr⟩
  ·go_upto_region 6 with (fail)
   obtain ⟨wx, hwx, hV, LX⟩ := zfs a b w1; rw [hwx]; obtain ⟨gx, hgx⟩ : ∃ gx, w1.heap.size + 1 + 1 = gx := ⟨_, rfl⟩; rw [hgx] at LX; replace hb2 := zab hb2 hV
   (try rw [hgx])
   clear hwx hgx hV L b0 b1 b2 hz; go_wp2_with fail
   go_loopw [4, 7] (fun s i wr => ∃ j : Nat, j <= 1 /\ i = .int .i64 j /\ s = .string (za6 zfh (([a] : List Int).take j)) /\ Below wx.heap.size wx wr) (fun _ i _ => 1 - (intOf i).toNat)
   case atStart => exact ⟨0, Nat.zero_le _, rfl, rfl, Below.refl _ _⟩
   case round =>
    obtain ⟨j, hj, rfl, rfl, hbr⟩ := hrel; have x0 := ((LX.below hbr) 0 _ rfl).1; have x1 := ((LX.below hbr) 1 _ rfl).1
    by_cases hlt : j < 1
    ·obtain ⟨m, hm3, xj, HS⟩ : ∃ m : Nat, m <= 1000 /\ wr.cell? ⟨gx, j, none⟩ = some (.int .i64 (m : Int)) /\ Hid ((za6 zfh (([a] : List Int).take j) ++ spc1) ++ numS (m : Int) = za6 zfh (([a] : List Int).take (j + 1))) := by
      obtain rfl : j = 0 := by omega
      obtain ⟨m, hm⟩ := Int.eq_ofNat_of_zero_le (show 0 <= a by omega)
      exact ⟨m, by omega, by rw [<- hm]; exact x0, by rw [<- hm]; rfl⟩
     have hs1 := zeb zfh (([a] : List Int).take j) (fun n hn => by have := List.mem_of_mem_take hn; simp at this; omega)
     have hw5 : (zfh).size <= 5 := by decide
     have hn1 := zb0 (m : Int) (by omega)
     have hl : (([a] : List Int).take j).length <= 2 := by rw [List.length_take]; omega
     have HS1 := HS; clear HS; generalize za6 zfh (([a] : List Int).take j) = s0 at *
     have hz1 : (s0 ++ spc1).size = s0.size + 1 := by rw [ByteArray.size_append]; rfl
     have hz0 : s0.size <= 60 := by omega
     have hz2 : ¬ 9223372036854775807 < s0.size + 1 := by omega
     have hz3 : ¬ 9223372036854775807 < (s0 ++ spc1).size + (numS m).size := by omega
     clear hs1 hz1 hl x0 x1; have hcF := zaz m wr (by omega)
     have hi0 : (0 : Int) <= (j : Int) := by omega
     go_wp2_with fail; refine hcF.mono ?_; rintro e w3 ⟨rfl, hb3⟩; go_wp2_with fail; go_roundw
     case rel => exact ⟨j + 1, by omega, by go_num, congrArg Value.string HS1.out, zab hbr hb3⟩
     case measure => simp [intOf]; omega
    ·obtain rfl : j = 1 := by omega
     go_wp2_with fail; go_ret2; exact ⟨zd2 HA.out.symm hq.out.symm, zab hb2 hbr⟩
  ·go_upto_region 6 with (fail)
   obtain ⟨wx, hwx, hV, LX⟩ := zfs a b w1; rw [hwx]; obtain ⟨gx, hgx⟩ : ∃ gx, w1.heap.size + 1 + 1 = gx := ⟨_, rfl⟩; rw [hgx] at LX; replace hb2 := zab hb2 hV
   (try rw [hgx])
   clear hwx hgx hV L b0 b1 b2 hz; go_wp2_with fail
   go_loopw [4, 7] (fun s i wr => ∃ j : Nat, j <= 1 /\ i = .int .i64 j /\ s = .string (za6 ziv (([a] : List Int).take j)) /\ Below wx.heap.size wx wr) (fun _ i _ => 1 - (intOf i).toNat)
   case atStart => exact ⟨0, Nat.zero_le _, rfl, rfl, Below.refl _ _⟩
   case round =>
    obtain ⟨j, hj, rfl, rfl, hbr⟩ := hrel; have x0 := ((LX.below hbr) 0 _ rfl).1; have x1 := ((LX.below hbr) 1 _ rfl).1
    by_cases hlt : j < 1
    ·obtain ⟨m, hm3, xj, HS⟩ : ∃ m : Nat, m <= 1000 /\ wr.cell? ⟨gx, j, none⟩ = some (.int .i64 (m : Int)) /\ Hid ((za6 ziv (([a] : List Int).take j) ++ spc1) ++ numS (m : Int) = za6 ziv (([a] : List Int).take (j + 1))) := by
      obtain rfl : j = 0 := by omega
      obtain ⟨m, hm⟩ := Int.eq_ofNat_of_zero_le (show 0 <= a by omega)
      exact ⟨m, by omega, by rw [<- hm]; exact x0, by rw [<- hm]; rfl⟩
     have hs1 := zeb ziv (([a] : List Int).take j) (fun n hn => by have := List.mem_of_mem_take hn; simp at this; omega)
     have hw5 : (ziv).size <= 5 := by decide
     have hn1 := zb0 (m : Int) (by omega)
     have hl : (([a] : List Int).take j).length <= 2 := by rw [List.length_take]; omega
     have HS1 := HS; clear HS; generalize za6 ziv (([a] : List Int).take j) = s0 at *
     have hz1 : (s0 ++ spc1).size = s0.size + 1 := by rw [ByteArray.size_append]; rfl
     have hz0 : s0.size <= 60 := by omega
     have hz2 : ¬ 9223372036854775807 < s0.size + 1 := by omega
     have hz3 : ¬ 9223372036854775807 < (s0 ++ spc1).size + (numS m).size := by omega
     clear hs1 hz1 hl x0 x1; have hcF := zaz m wr (by omega)
     have hi0 : (0 : Int) <= (j : Int) := by omega
     go_wp2_with fail; refine hcF.mono ?_; rintro e w3 ⟨rfl, hb3⟩; go_wp2_with fail; go_roundw
     case rel => exact ⟨j + 1, by omega, by go_num, congrArg Value.string HS1.out, zab hbr hb3⟩
     case measure => simp [intOf]; omega
    ·obtain rfl : j = 1 := by omega
     go_wp2_with fail; go_ret2; exact ⟨zd2 HA.out.symm hq.out.symm, zab hb2 hbr⟩
  ·go_upto_region 6 with (fail)
   obtain ⟨wx, hwx, hV, LX⟩ := zfs a b w1; rw [hwx]; obtain ⟨gx, hgx⟩ : ∃ gx, w1.heap.size + 1 + 1 = gx := ⟨_, rfl⟩; rw [hgx] at LX; replace hb2 := zab hb2 hV
   (try rw [hgx])
   clear hwx hgx hV L b0 b1 b2 hz; go_wp2_with fail
   go_loopw [4, 7] (fun s i wr => ∃ j : Nat, j <= 0 /\ i = .int .i64 j /\ s = .string (za6 zd3 (([] : List Int).take j)) /\ Below wx.heap.size wx wr) (fun _ i _ => 0 - (intOf i).toNat)
   case atStart => exact ⟨0, Nat.zero_le _, rfl, rfl, Below.refl _ _⟩
   case round =>
    obtain ⟨j, hj, rfl, rfl, hbr⟩ := hrel; obtain rfl : j = 0 := by omega
    go_wp2_with fail; go_ret2; exact ⟨zd2 HA.out.symm hq.out.symm, zab hb2 hbr⟩
  ·go_upto_region 6 with (fail)
   obtain ⟨wx, hwx, hV, LX⟩ := zfs a b w1; rw [hwx]; obtain ⟨gx, hgx⟩ : ∃ gx, w1.heap.size + 1 + 1 = gx := ⟨_, rfl⟩; rw [hgx] at LX; replace hb2 := zab hb2 hV
   (try rw [hgx])
   clear hwx hgx hV L b0 b1 b2 hz; go_wp2_with fail
   go_loopw [4, 7] (fun s i wr => ∃ j : Nat, j <= 1 /\ i = .int .i64 j /\ s = .string (za6 zir (([a] : List Int).take j)) /\ Below wx.heap.size wx wr) (fun _ i _ => 1 - (intOf i).toNat)
   case atStart => exact ⟨0, Nat.zero_le _, rfl, rfl, Below.refl _ _⟩
   case round =>
    obtain ⟨j, hj, rfl, rfl, hbr⟩ := hrel; have x0 := ((LX.below hbr) 0 _ rfl).1; have x1 := ((LX.below hbr) 1 _ rfl).1
    by_cases hlt : j < 1
    ·obtain ⟨m, hm3, xj, HS⟩ : ∃ m : Nat, m <= 1000 /\ wr.cell? ⟨gx, j, none⟩ = some (.int .i64 (m : Int)) /\ Hid ((za6 zir (([a] : List Int).take j) ++ spc1) ++ numS (m : Int) = za6 zir (([a] : List Int).take (j + 1))) := by
      obtain rfl : j = 0 := by omega
      obtain ⟨m, hm⟩ := Int.eq_ofNat_of_zero_le (show 0 <= a by omega)
      exact ⟨m, by omega, by rw [<- hm]; exact x0, by rw [<- hm]; rfl⟩
     have hs1 := zeb zir (([a] : List Int).take j) (fun n hn => by have := List.mem_of_mem_take hn; simp at this; omega)
     have hw5 : (zir).size <= 5 := by decide
     have hn1 := zb0 (m : Int) (by omega)
     have hl : (([a] : List Int).take j).length <= 2 := by rw [List.length_take]; omega
     have HS1 := HS; clear HS; generalize za6 zir (([a] : List Int).take j) = s0 at *
     have hz1 : (s0 ++ spc1).size = s0.size + 1 := by rw [ByteArray.size_append]; rfl
     have hz0 : s0.size <= 60 := by omega
     have hz2 : ¬ 9223372036854775807 < s0.size + 1 := by omega
     have hz3 : ¬ 9223372036854775807 < (s0 ++ spc1).size + (numS m).size := by omega
     clear hs1 hz1 hl x0 x1; have hcF := zaz m wr (by omega)
     have hi0 : (0 : Int) <= (j : Int) := by omega
     go_wp2_with fail; refine hcF.mono ?_; rintro e w3 ⟨rfl, hb3⟩; go_wp2_with fail; go_roundw
     case rel => exact ⟨j + 1, by omega, by go_num, congrArg Value.string HS1.out, zab hbr hb3⟩
     case measure => simp [intOf]; omega
    ·obtain rfl : j = 1 := by omega
     go_wp2_with fail; go_ret2; exact ⟨zd2 HA.out.symm hq.out.symm, zab hb2 hbr⟩
  ·go_upto_region 6 with (fail)
   obtain ⟨wx, hwx, hV, LX⟩ := zfs a b w1; rw [hwx]; obtain ⟨gx, hgx⟩ : ∃ gx, w1.heap.size + 1 + 1 = gx := ⟨_, rfl⟩; rw [hgx] at LX; replace hb2 := zab hb2 hV
   (try rw [hgx])
   clear hwx hgx hV L b0 b1 b2 hz; go_wp2_with fail
   go_loopw [4, 7] (fun s i wr => ∃ j : Nat, j <= 0 /\ i = .int .i64 j /\ s = .string (za6 wWhy (([] : List Int).take j)) /\ Below wx.heap.size wx wr) (fun _ i _ => 0 - (intOf i).toNat)
   case atStart => exact ⟨0, Nat.zero_le _, rfl, rfl, Below.refl _ _⟩
   case round =>
    obtain ⟨j, hj, rfl, rfl, hbr⟩ := hrel; obtain rfl : j = 0 := by omega
    go_wp2_with fail; go_ret2; exact ⟨zd2 HA.out.symm hq.out.symm, zab hb2 hbr⟩
 ·go_wp2_with fail
  go_ret2
  exact ⟨zd2 (zxf hq.out).symm hq.out.symm, zab hal hb1⟩
def RetF (s : ByteArray) (w : World) (e : Ending) (w' : World) : Prop := ∃ v, e = .returned (.tuple #[v, .bool (fldB s)]) /\ RdL cStr 1 w' v (fldF s) /\ Below w.heap.size w w'
theorem zf3 {s : ByteArray} {w w' : World} {v : Value} (h : fldB s = false) (hr : RdL cStr 1 w' v []) (hb : Below w.heap.size w w') : RetF s w (.returned (.tuple #[v, .bool false])) w' :=
 ⟨v, by rw [h], by unfold fldF; rw [h]; exact hr, hb⟩
theorem zut {s : ByteArray} {w w' : World} {v : Value} (h : fldB s = true) (hr : RdL cStr 1 w' v ((tok s.data.toList).map baL)) (hb : Below w.heap.size w w') : RetF s w (.returned (.tuple #[v, .bool true])) w' :=
 ⟨v, by rw [h], by unfold fldF; rw [if_pos h]; exact hr, hb⟩
theorem zk6 (w : World) : RdL cStr 1 w (.slice none 0 0) [] := ⟨rfl, none, 0, rfl, Nat.le_refl _, by simp [maxLen], fun h => absurd h (by decide)⟩
theorem zu1 {s : ByteArray} (h : ¬ s.size <= 600) : fldB s = false := by unfold fldB zs6; rw [decide_eq_false h]; rfl
theorem zi3 {s : ByteArray} {k : Nat} (hk : k < s.size) (h : zlw 32 126 s[k] = false) : fldB s = false := by
 have hl : k < s.data.toList.length := by simpa using hk
 have : zha s 32 126 = false := zck hl h; unfold fldB zs6; rw [this, Bool.and_false]; rfl
theorem zqe {s : ByteArray} (h : ¬ (tok s.data.toList).length <= 24) : fldB s = false := by unfold fldB; rw [decide_eq_false h, Bool.and_false]
theorem zsy {s : ByteArray} (h1 : s.size <= 600) (h2 : zha s 32 126 = true) (h3 : (tok s.data.toList).length <= 24) : fldB s = true := by unfold fldB zs6; rw [decide_eq_true h1, h2, decide_eq_true h3]; rfl
theorem zjl {s : ByteArray} {k : Nat} (hk : k < s.size) : s.data.toList.take (k + 1) = s.data.toList.take k ++ [s[k]] := by
 rw [List.take_succ_eq_append_getElem (by simpa using hk)]; rfl
theorem zkw {s : ByteArray} {b k : Nat} (_hk : k <= s.size) : baL ((s.data.toList.take k).drop b) = s.extract b k := by
 refine zfx ?_; rw [zd7, Lib.extract_data, List.drop_take]
theorem zxl {s : ByteArray} {b k : Nat} (hb : b < k) (hk : k <= s.size) : (s.data.toList.take k).drop b ≠ [] := by
 intro h; have := congrArg List.length h
 simp at this
 omega
structure ze8 (s : ByteArray) (k : Nat) (out : List (List UInt8)) (b : Nat) : Prop where
 st : zln (s.data.toList.take k) = (out, (s.data.toList.take k).drop b)
 le : b <= k
 len : out.length <= k
 ok : (s.data.toList.take k).all (zlw 32 126) = true
theorem ze8.zero (s : ByteArray) : ze8 s 0 [] 0 := ⟨rfl, Nat.le_refl _, Nat.le_refl _, rfl⟩
theorem ze8.other {s : ByteArray} {k b : Nat} {out : List (List UInt8)} (h : ze8 s k out b) (hk : k < s.size) (hc : s[k] ≠ 32) (hy : zlw 32 126 s[k] = true) : ze8 s (k + 1) out b := by
 have hl : (s.data.toList.take k).length = k := by rw [List.length_take]; simp; omega
 refine ⟨?_, by have := h.le; omega, by have := h.len; omega, by rw [zjl hk, List.all_append, h.ok]; simp [hy]⟩
 rw [zjl hk, zmd, h.st]; unfold zcx; rw [if_neg hc, List.drop_append_of_le_length (by rw [hl]; exact h.le)]
theorem ze8.space {s : ByteArray} {k b : Nat} {out : List (List UInt8)} (h : ze8 s k out b) (hk : k < s.size) (hc : s[k] = 32) : ze8 s (k + 1) (if b < k then out ++ [(s.data.toList.take k).drop b] else out) (k + 1) := by
 have hl : (s.data.toList.take k).length = k := by rw [List.length_take]; simp; omega
 have hle := h.le; have hln := h.len; refine ⟨?_, Nat.le_refl _, (by split; (rw [List.length_append, List.length_singleton]; omega); omega), by rw [zjl hk, List.all_append, h.ok, hc]; decide⟩
 rw [zjl hk, zmd, h.st, hc, zjc]; have hd : ((s.data.toList.take k) ++ [(32 : UInt8)]).drop (k + 1) = [] := List.drop_of_length_le (by rw [List.length_append, hl]; simp)
 rw [hd]; unfold ze2
 by_cases hb : b < k
 ·rw [if_neg (zxl hb (by omega)), if_pos hb]
 ·rw [if_pos (List.drop_of_length_le (by rw [hl]; omega)), if_neg hb]
theorem ze8.fin {s : ByteArray} {b : Nat} {out : List (List UInt8)} (h : ze8 s s.size out b) : tok s.data.toList = if b < s.size then out ++ [(s.data.toList.take s.size).drop b] else out := by
 have hl : (s.data.toList.take s.size).length = s.size := by rw [List.length_take]; simp
 have hle := h.le; have e : tok s.data.toList = ze2 (zln (s.data.toList.take s.size)) := by rw [List.take_of_length_le (by simp)]; rfl
 rw [e, h.st]; unfold ze2
 by_cases hb : b < s.size
 ·rw [if_neg (zxl hb (Nat.le_refl _)), if_pos hb]
 ·rw [if_pos (List.drop_of_length_le (by rw [hl]; omega)), if_neg hb]
theorem ze8.bytes {s : ByteArray} {b : Nat} {out : List (List UInt8)} (h : ze8 s s.size out b) : zha s 32 126 = true := by
 have := h.ok
 rwa [List.take_of_length_le (by simp)] at this
theorem zee (s : ByteArray) (w : World) (hs : s.size <= 9223372036854775807) :
  Calls Tryz.prog 16 #[.string s] w (RetF s w) := by
 obtain ⟨i0, hi0, hz0, hz1', hz2⟩ := info_parts zdb
 by_cases h600 : s.size <= 600
 ·have hown0 := World.ownsRow_made (size := 1) (e := 9) w #[] 0 (Nat.le_refl _) (by simp [maxLen]) rfl
  have hb0 : Below w.heap.size w (w.alloc (.cells #[] 9)) := (Below.refl _ _).alloc (Nat.le_refl _) _
  go_enter Tryz.func16, Tryz.ntmps16
  go_wp2_with fail
  go_loopw [4, 5, 13] (fun q f i wr => ∃ (k b : Nat) (out : List (List UInt8)), k <= s.size /\ i = .int .i64 k /\ f = .int .i64 (if b < k then (b : Int) else -1) /\ out.length <= 600 /\ Hid (ze8 s k out b) /\ wr.ownsRow w.heap.size 9 1 q out.length ((out.map baL).flatMap cStr) /\ Below w.heap.size w wr) (fun _ _ i _ => s.size - (intOf i).toNat)
  case atStart => exact ⟨0, 0, [], Nat.zero_le _, rfl, rfl, Nat.zero_le _, ze8.zero s, hown0, hb0⟩
  case round =>
   obtain ⟨k, b, out, hk, rfl, rfl, ho, hst, hown, hb⟩ := hrel; clear hown0 hb0; have hz := hb.size; have hbk := hst.out.le; obtain ⟨Aq, cq, rfl, _, _⟩ := (RdS.of_own hown).form
   by_cases hlt : k < s.size
   ·by_cases hbl : b < k
    ·rw [if_pos hbl]
     by_cases h1 : (s[k].toNat : Int) < 32
     ·have hf := Lib.hid (zi3 hlt (zmr h1))
      clear hst; go_wp2_with fail; go_ret2; exact zf3 hf.out (zk6 _) hb
     ·by_cases h2 : 126 < (s[k].toNat : Int)
      ·have hf := Lib.hid (zi3 hlt (znc h2))
       clear hst; go_wp2_with fail; go_ret2; exact zf3 hf.out (zk6 _) hb
      ·by_cases h3 : s[k] = 32
       ·have hn := hst.out.space hlt h3
        have h4 : ((s[k].toNat : Int) == 32) = true := by rw [h3]; rfl
        have hln := hst.out.len; clear h3; rw [if_pos hbl] at hn; have HN := Lib.hid hn
        have HO : Hid (((out ++ [((s.data.toList.take k).drop b)]).map baL).flatMap cStr = (out.map baL).flatMap cStr ++ [.string (s.extract b k)]) := by
         show _ = _
         rw [List.map_append, List.flatMap_append, <- zkw hk]; rfl
        clear hn hst; have hb0 : (0 : Int) <= (b : Int) := by omega
        have hbkI : (b : Int) <= (k : Int) := by omega
        go_wp2_with (at_builtin; go_must (refine zaf _ rfl (.tmp 32) (.tmp 37) _ rfl w.heap.size 9 i0 _ 1 16 Tryz.underlying22 hi0 hz0 hz1' hz2 rfl (by omega) _ out.length ((out.map baL).flatMap cStr) rfl (hown.alloc _) _ 1 [.string (s.extract b k)] rfl (zap wr #[.string (s.extract b k)] _ 1 1 rfl (by simp [maxLen])) (by simp [Value.oneCell']) (by simp [maxLen]; omega) (by omega) (by simp; omega) ?_); intro v3 w3 hown3 hgr3)
        have hb3 : Below w.heap.size w w3 := (hb.alloc hb.size _).trans (zag (hown.alloc (.cells #[.string (s.extract b k)] 9)) hgr3 (by simp; omega))
        clear hown hgr3; go_wp2_with fail; go_roundw
        case rel => exact ⟨k + 1, k + 1, _, by omega, by go_num, by rw [if_neg (by omega)], by rw [List.length_append, List.length_singleton]; omega, HN.out, by rw [HO.out, List.length_append]; exact hown3, hb3⟩
        case measure => simp [intOf]; omega
       ·have HN := Lib.hid (hst.out.other hlt h3 (zqh h1 h2))
        have h4 : ((s[k].toNat : Int) == 32) = false := by rw [beq_eq_false_iff_ne]; intro h; exact h3 (UInt8.toNat_inj.1 (by have : (32 : UInt8).toNat = 32 := rfl; omega))
        clear h3 hst; have hb0 : ¬ (b : Int) < 0 := by omega
        go_wp2_with fail; go_roundw
        case rel => exact ⟨k + 1, b, out, by omega, by go_num, by rw [if_pos (by omega)], ho, HN.out, hown, hb⟩
        case measure => simp [intOf]; omega
    ·rw [if_neg hbl]
     by_cases h1 : (s[k].toNat : Int) < 32
     ·have hf := Lib.hid (zi3 hlt (zmr h1))
      clear hst; go_wp2_with fail; go_ret2; exact zf3 hf.out (zk6 _) hb
     ·by_cases h2 : 126 < (s[k].toNat : Int)
      ·have hf := Lib.hid (zi3 hlt (znc h2))
       clear hst; go_wp2_with fail; go_ret2; exact zf3 hf.out (zk6 _) hb
      ·by_cases h3 : s[k] = 32
       ·have hn := hst.out.space hlt h3
        have h4 : ((s[k].toNat : Int) == 32) = true := by rw [h3]; rfl
        have hln := hst.out.len; clear h3; rw [if_neg hbl] at hn; have HN := Lib.hid hn; clear hn hst; go_wp2_with fail; go_roundw
        case rel => exact ⟨k + 1, k + 1, out, by omega, by go_num, by rw [if_neg (by omega)], ho, HN.out, hown, hb⟩
        case measure => simp [intOf]; omega
       ·have HN := Lib.hid (hst.out.other hlt h3 (zqh h1 h2))
        have h4 : ((s[k].toNat : Int) == 32) = false := by rw [beq_eq_false_iff_ne]; intro h; exact h3 (UInt8.toNat_inj.1 (by have : (32 : UInt8).toNat = 32 := rfl; omega))
        clear h3 hst; obtain rfl : b = k := by omega
        go_wp2_with fail; go_roundw
        case rel => exact ⟨b + 1, b, out, by omega, by go_num, by rw [if_pos (by omega)], ho, HN.out, hown, hb⟩
        case measure => simp [intOf]; omega
   ·obtain rfl : k = s.size := by omega
    have hty := hst.out.bytes; have hfin := hst.out.fin; have hln := hst.out.len; clear hst; replace hty := Lib.hid hty
    by_cases hbl : b < s.size
    ·rw [if_pos hbl] at hfin ⊢
     have HF := Lib.hid hfin
     have HO : Hid (((out ++ [((s.data.toList.take s.size).drop b)]).map baL).flatMap cStr = (out.map baL).flatMap cStr ++ [.string (s.extract b s.size)]) := by
      show _ = _
      rw [List.map_append, List.flatMap_append, <- zkw (Nat.le_refl _)]; rfl
     clear hfin; have hb0 : (0 : Int) <= (b : Int) := by omega
     have hbkI : (b : Int) <= (s.size : Int) := by omega
     have HL : Hid ((out ++ [((s.data.toList.take s.size).drop b)]).length = out.length + 1) := by show _ = _; rw [List.length_append]; rfl
     by_cases h24 : (tok s.data.toList).length <= 24
     ·have hf := Lib.hid (zsy h600 hty.out h24)
      have h24' := h24; rw [HF.out, HL.out] at h24'; clear h24
      go_wp2_with (at_builtin; go_must (refine zaf _ rfl (.tmp 45) (.tmp 49) _ rfl w.heap.size 9 i0 _ 1 16 Tryz.underlying22 hi0 hz0 hz1' hz2 rfl (by omega) _ out.length ((out.map baL).flatMap cStr) rfl (hown.alloc _) _ 1 [.string (s.extract b s.size)] rfl (zap wr #[.string (s.extract b s.size)] _ 1 1 rfl (by simp [maxLen])) (by simp [Value.oneCell']) (by simp [maxLen]; omega) (by omega) (by simp; omega) ?_); intro v3 w3 hown3 hgr3; obtain ⟨A3, c3, rfl, _, _⟩ := (RdS.of_own hown3).form)
      have hb3 : Below w.heap.size w w3 := (hb.alloc hb.size _).trans (zag (hown.alloc (.cells #[.string (s.extract b s.size)] 9)) hgr3 (by simp; omega))
      go_ret2
      exact zut hf.out (by rw [HF.out]; unfold RdL; rw [List.length_map, HL.out, HO.out]; exact RdS.of_own hown3) hb3
     ·have hf := Lib.hid (zqe h24)
      have h24' := h24; rw [HF.out, HL.out] at h24'; clear h24
      go_wp2_with (at_builtin; go_must (refine zaf _ rfl (.tmp 45) (.tmp 49) _ rfl w.heap.size 9 i0 _ 1 16 Tryz.underlying22 hi0 hz0 hz1' hz2 rfl (by omega) _ out.length ((out.map baL).flatMap cStr) rfl (hown.alloc _) _ 1 [.string (s.extract b s.size)] rfl (zap wr #[.string (s.extract b s.size)] _ 1 1 rfl (by simp [maxLen])) (by simp [Value.oneCell']) (by simp [maxLen]; omega) (by omega) (by simp; omega) ?_); intro v3 w3 hown3 hgr3; obtain ⟨A3, c3, rfl, _, _⟩ := (RdS.of_own hown3).form)
      have hb3 : Below w.heap.size w w3 := (hb.alloc hb.size _).trans (zag (hown.alloc (.cells #[.string (s.extract b s.size)] 9)) hgr3 (by simp; omega))
      go_ret2
      exact zf3 hf.out (zk6 _) hb3
    ·rw [if_neg hbl] at hfin ⊢
     have HF := Lib.hid hfin; have HOW := Lib.hid hown; clear hfin hown
     by_cases h24 : (tok s.data.toList).length <= 24
     ·have hf := Lib.hid (zsy h600 hty.out h24)
      have h24' := h24; rw [HF.out] at h24'; clear h24; go_wp2_with fail; go_ret2; exact zut hf.out (by rw [HF.out]; unfold RdL; rw [List.length_map]; exact RdS.of_own (by have := HOW.out; exact this)) hb
     ·have hf := Lib.hid (zqe h24)
      have h24' := h24; rw [HF.out] at h24'; clear h24; go_wp2_with fail; go_ret2; exact zf3 hf.out (zk6 _) hb
 ·go_enter Tryz.func16, Tryz.ntmps16
  go_wp2_with fail; go_ret2; exact zf3 (zu1 h600) (zk6 _) (Below.refl _ _)
theorem zc6 (s : ByteArray) (w : World) (hs : s.size <= 9223372036854775807) :
  Calls Tryz.prog 9 #[.string s] w (RetF s w) := by
 obtain ⟨i0, hi0, hz0, hz1', hz2⟩ := info_parts zdb; have hown0 := World.ownsRow_made (size := 1) (e := 9) w #[] 0 (Nat.le_refl _) (by simp [maxLen]) rfl
 have hb0 : Below w.heap.size w (w.alloc (.cells #[] 9)) := (Below.refl _ _).alloc (Nat.le_refl _) _
 by_cases h600 : s.size <= 600
 ·go_enter Tryz.func9, Tryz.ntmps9
  go_wp2_with fail
  go_loopw [4, 5, 6] (fun q f i wr => ∃ (k b : Nat) (out : List (List UInt8)), k <= s.size + 1 /\ i = .int .i64 k /\ f = .int .i64 b /\ b <= k /\ out.length <= 601 /\ Hid ((k <= s.size -> ze8 s k out b) /\ (k = s.size + 1 -> tok s.data.toList = out /\ zha s 32 126 = true)) /\ wr.ownsRow w.heap.size 9 1 q out.length ((out.map baL).flatMap cStr) /\ Below w.heap.size w wr) (fun _ _ i _ => s.size + 1 - (intOf i).toNat)
  case atStart => exact ⟨0, 0, [], Nat.zero_le _, rfl, rfl, Nat.zero_le _, Nat.zero_le _, ⟨fun _ => ze8.zero s, fun h => absurd h (by omega)⟩, hown0, hb0⟩
  case round =>
   obtain ⟨k, b, out, hk, rfl, rfl, hbk, ho, hst, hown, hb⟩ := hrel; clear hown0 hb0; have hz := hb.size; obtain ⟨Aq, cq, rfl, _, _⟩ := (RdS.of_own hown).form; have hNE : ∀ (W : World), RdL cStr 1 (W.alloc (.cells #[] 9)) (.slice (some ⟨W.heap.size, 0, none⟩) 0 0) [] := fun W => zap W #[] _ 1 0 rfl (by simp [maxLen])
   have HNE := Lib.hid hNE; clear hNE
   by_cases hlt : k < s.size
   ·have hst1 := hst.out.1 (by omega)
    have hln := hst1.len
    by_cases h1 : (s[k].toNat : Int) < 32
    ·have hf := Lib.hid (zi3 hlt (zmr h1))
     clear hst; go_wp2_with fail; go_ret2; exact zf3 hf.out (HNE.out wr) (hb.alloc hb.size _)
    ·by_cases h2 : 126 < (s[k].toNat : Int)
     ·have hf := Lib.hid (zi3 hlt (znc h2))
      clear hst; go_wp2_with fail; go_ret2; exact zf3 hf.out (HNE.out wr) (hb.alloc hb.size _)
     ·by_cases h3 : s[k] = 32
      ·have hn := hst1.space hlt h3
       have h4 : ((s[k].toNat : Int) != 32) = false := by rw [h3]; rfl
       clear h3 hst hst1
       by_cases hbl : b < k
       ·rw [if_pos hbl] at hn
        have HN : Hid ((k + 1 <= s.size -> ze8 s (k + 1) (out ++ [((s.data.toList.take k).drop b)]) (k + 1)) /\ (k + 1 = s.size + 1 -> tok s.data.toList = out ++ [((s.data.toList.take k).drop b)] /\ zha s 32 126 = true)) := ⟨fun _ => hn, fun h => absurd h (by omega)⟩
        have HO : Hid (((out ++ [((s.data.toList.take k).drop b)]).map baL).flatMap cStr = (out.map baL).flatMap cStr ++ [.string (s.extract b k)]) := by
         show _ = _
         rw [List.map_append, List.flatMap_append, <- zkw (by omega)]; rfl
        clear hn; have hbI : (0 : Int) <= (b : Int) := by omega
        have hbkI : (b : Int) <= (k : Int) := by omega
        go_wp2_with (at_builtin; go_must (refine zaf _ rfl (.tmp 48) (.tmp 53) _ rfl w.heap.size 9 i0 _ 1 16 Tryz.underlying22 hi0 hz0 hz1' hz2 rfl (by omega) _ out.length ((out.map baL).flatMap cStr) rfl (hown.alloc _) _ 1 [.string (s.extract b k)] rfl (zap wr #[.string (s.extract b k)] _ 1 1 rfl (by simp [maxLen])) (by simp [Value.oneCell']) (by simp [maxLen]; omega) (by omega) (by simp; omega) ?_); intro v3 w3 hown3 hgr3)
        have hb3 : Below w.heap.size w w3 := (hb.alloc hb.size _).trans (zag (hown.alloc (.cells #[.string (s.extract b k)] 9)) hgr3 (by simp; omega))
        clear hown hgr3; go_wp2_with fail; go_roundw
        case rel => exact ⟨k + 1, k + 1, _, by omega, by go_num, by go_num, Nat.le_refl _, by rw [List.length_append, List.length_singleton]; omega, HN.out, by rw [HO.out, List.length_append]; exact hown3, hb3⟩
        case measure => simp [intOf]; omega
       ·rw [if_neg hbl] at hn
        have HN : Hid ((k + 1 <= s.size -> ze8 s (k + 1) out (k + 1)) /\ (k + 1 = s.size + 1 -> tok s.data.toList = out /\ zha s 32 126 = true)) := ⟨fun _ => hn, fun h => absurd h (by omega)⟩
        clear hn; go_wp2_with fail; go_roundw
        case rel => exact ⟨k + 1, k + 1, out, by omega, by go_num, by go_num, Nat.le_refl _, ho, HN.out, hown, hb⟩
        case measure => simp [intOf]; omega
      ·have hn := hst1.other hlt h3 (zqh h1 h2)
       have HN : Hid ((k + 1 <= s.size -> ze8 s (k + 1) out b) /\ (k + 1 = s.size + 1 -> tok s.data.toList = out /\ zha s 32 126 = true)) := ⟨fun _ => hn, fun h => absurd h (by omega)⟩
       have h4 : ((s[k].toNat : Int) != 32) = true := by rw [bne_iff_ne]; intro h; exact h3 (UInt8.toNat_inj.1 (by have : (32 : UInt8).toNat = 32 := rfl; omega))
       clear h3 hn hst hst1; go_wp2_with fail; go_roundw
       case rel => exact ⟨k + 1, b, out, by omega, by go_num, rfl, by omega, ho, HN.out, hown, hb⟩
       case measure => simp [intOf]; omega
   ·by_cases hke : k = s.size
    ·obtain rfl := hke
     have hst1 := hst.out.1 (Nat.le_refl _); have hfin := hst1.fin; have hty := hst1.bytes; have hln := hst1.len; clear hst hst1
     by_cases hbl : b < s.size
     ·rw [if_pos hbl] at hfin
      have HN : Hid ((s.size + 1 <= s.size -> ze8 s (s.size + 1) (out ++ [((s.data.toList.take s.size).drop b)]) (s.size + 1)) /\ (s.size + 1 = s.size + 1 -> tok s.data.toList = out ++ [((s.data.toList.take s.size).drop b)] /\ zha s 32 126 = true)) := ⟨fun h => absurd h (by omega), fun _ => ⟨hfin, hty⟩⟩
      have HO : Hid (((out ++ [((s.data.toList.take s.size).drop b)]).map baL).flatMap cStr = (out.map baL).flatMap cStr ++ [.string (s.extract b s.size)]) := by
       show _ = _
       rw [List.map_append, List.flatMap_append, <- zkw (Nat.le_refl _)]; rfl
      clear hfin hty; have hbI : (0 : Int) <= (b : Int) := by omega
      have hbkI : (b : Int) <= (s.size : Int) := by omega
      go_wp2_with (at_builtin; go_must (refine zaf _ rfl (.tmp 48) (.tmp 53) _ rfl w.heap.size 9 i0 _ 1 16 Tryz.underlying22 hi0 hz0 hz1' hz2 rfl (by omega) _ out.length ((out.map baL).flatMap cStr) rfl (hown.alloc _) _ 1 [.string (s.extract b s.size)] rfl (zap wr #[.string (s.extract b s.size)] _ 1 1 rfl (by simp [maxLen])) (by simp [Value.oneCell']) (by simp [maxLen]; omega) (by omega) (by simp; omega) ?_); intro v3 w3 hown3 hgr3)
      have hb3 : Below w.heap.size w w3 := (hb.alloc hb.size _).trans (zag (hown.alloc (.cells #[.string (s.extract b s.size)] 9)) hgr3 (by simp; omega))
      clear hown hgr3; go_wp2_with fail; go_roundw
      case rel => exact ⟨s.size + 1, s.size + 1, _, Nat.le_refl _, by go_num, by go_num, Nat.le_refl _, by rw [List.length_append, List.length_singleton]; omega, HN.out, by rw [HO.out, List.length_append]; exact hown3, hb3⟩
      case measure => simp [intOf]
     ·rw [if_neg hbl] at hfin
      have HN : Hid ((s.size + 1 <= s.size -> ze8 s (s.size + 1) out (s.size + 1)) /\ (s.size + 1 = s.size + 1 -> tok s.data.toList = out /\ zha s 32 126 = true)) := ⟨fun h => absurd h (by omega), fun _ => ⟨hfin, hty⟩⟩
      clear hfin hty; go_wp2_with fail; go_roundw
      case rel => exact ⟨s.size + 1, s.size + 1, out, Nat.le_refl _, by go_num, by go_num, Nat.le_refl _, ho, HN.out, hown, hb⟩
      case measure => simp [intOf]
    ·obtain rfl : k = s.size + 1 := by omega
     obtain ⟨hfin, hty⟩ := hst.out.2 rfl; have HF := Lib.hid hfin; have HY := Lib.hid hty; clear hst hfin hty
     by_cases h24 : (tok s.data.toList).length <= 24
     ·have hf := Lib.hid (zsy h600 HY.out h24)
      have h24' := h24; rw [HF.out] at h24'; clear h24; go_wp2_with fail; go_ret2; exact zut hf.out (by rw [HF.out]; unfold RdL; rw [List.length_map]; exact RdS.of_own hown) hb
     ·have hf := Lib.hid (zqe h24)
      have h24' := h24; rw [HF.out] at h24'; clear h24; go_wp2_with fail; go_ret2; exact zf3 hf.out (HNE.out wr) (hb.alloc hb.size _)
 ·go_enter Tryz.func9, Tryz.ntmps9
  go_wp2_with fail; go_ret2; exact zf3 (zu1 h600) (zap w #[] _ 1 0 rfl (by simp [maxLen])) hb0
end Go.Proofs.YtkbacoadejglkaaGreatDoor
