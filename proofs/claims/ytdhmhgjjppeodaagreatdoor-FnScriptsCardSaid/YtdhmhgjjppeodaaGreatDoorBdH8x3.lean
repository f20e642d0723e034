/- Several texts in one: Contracts: ParseUint of both, SplitFields of both. Conditions: the library's table of powers of ten reads as its text lays it; its sentinel of syntax is one. Contracts: l40Number of the reference. Contracts: ParseAct of the program. Conditions: the library's table of powers of ten, its sentinel of syntax. -/
import Derived.Lib.AtoiErrMem
import Derived.Lib.AtoiBound
import Derived.Stop.IfaceNil
import Derived.Test.YtdhmhgjjppeodaaGreatDoorBdH5x3
import Derived.Test.YtdhmhgjjppeodaaGreatDoorBdH3x3
import Derived.Test.YtdhmhgjjppeodaaGreatDoorBdC1x9
import Derived.Test.YtdhmhgjjppeodaaGreatDoorBdM7x3
namespace Go.Proofs.YtdhmhgjjppeodaaGreatDoor
open Go.RowKit
def ErrOk (w : World) : Prop := ∃ tp p, w.var? Tryz.prog "strconv.ErrSyntax" = some #[.iface tp p]
theorem ErrOk.below {w w' : World} (h : ErrOk w) (hb : Below w.heap.size w w') : ErrOk w' := by
 obtain ⟨tp, p, h⟩ := h
 refine ⟨tp, p, ?_⟩
 unfold World.var? at *
 cases hg : Tryz.prog.globalNamed "strconv.ErrSyntax" with
 | none => rw [hg] at h; exact h
 | some g =>
  rw [hg] at h
  simp only [Option.bind_some] at h ⊢
  have hlt : g < w.heap.size := by
   rcases Nat.lt_or_ge g w.heap.size with h1 | h1
   ·exact h1
   ·rw [Array.getElem?_eq_none h1] at h; cases h
  rw [hb.block g hlt]
  exact h
theorem toL_ne {a b : ByteArray} (h : ¬ a = b) : (a.toList == b.toList) = false := by
 rw [beq_eq_false_iff_ne, ByteArray.toList_eq, ByteArray.toList_eq]
 exact fun e => h (ba_ext e)
theorem pU_ret {s : ByteArray} {n : Int} {b : Bool} (h : pU s = (n, b)) : Ending.returned (.tuple #[.int .i64 n, .bool b]) = .returned (.tuple #[.int .i64 (pU s).1, .bool (pU s).2]) := by rw [h]
theorem pU_bad {s : ByteArray} (h : Lib.atoi s.data.toList = none) : pU s = (0, false) := by
 rcases pU_cases s with ⟨n, _, h2, _⟩ | ⟨h2, _⟩
 ·rw [h2, atoi_num] at h; cases h
 ·exact h2
theorem pU_good {s : ByteArray} {n : Int} (h0 : 0 ≤ n ∧ n ≤ 1000000000) (h : numS n = s) : pU s = (n, true) := by
 obtain ⟨m, rfl⟩ := Int.eq_ofNat_of_zero_le h0.1
 rw [← h]
 exact pU_num (by omega)
theorem pU_other {s : ByteArray} {n : Int} (h : Lib.atoi s.data.toList = some n) (h2 : ¬ (0 ≤ n ∧ n ≤ 1000000000 ∧ numS n = s)) : pU s = (0, false) := by
 rcases pU_cases s with ⟨m, h3, h4, _⟩ | ⟨h3, _⟩
 ·rw [h4, atoi_num] at h
  injection h with h
  exact absurd ⟨by omega, by omega, by rw [← h, h4]⟩ h2
 ·exact h3
set_option maxHeartbeats 2000000 in
set_option maxRecDepth 100000 in
theorem implParseUint_any (s : ByteArray) (w : World) (hs : s.size ≤ 9223372036854775807) (ht : TabOk w) (he : ErrOk w) :
  Calls Tryz.prog 114 #[.string s] w fun e w' => e = .returned (.tuple #[.int .i64 (pU s).1, .bool (pU s).2]) ∧ Below w.heap.size w w' := by
 have hif : Tryz.prog.isIface 110 = true := by kernel_rfl
 by_cases h10 : 10 < s.size
 ·go_enter Tryz.func114, Tryz.ntmps114
  go_wp2_with fail
  go_ret2
  exact ⟨pU_ret (pU_long h10), Below.refl _ _⟩
 ·cases hat : Lib.atoi s.data.toList with
  | none =>
   obtain ⟨tp, p, hv⟩ := he
   have HP := Lib.hid (pU_bad hat)
   have HA := Lib.hid (lib_strconv_Atoi_err_var s (by omega) hat tp p w hv)
   clear hat hv
   go_enter Tryz.func114, Tryz.ntmps114
   go_wp2_with fail
   refine HA.out.mono ?_
   rintro e w1 ⟨N, rfl, _, _, hb⟩
   go_wp2_with fail
   go_ret2
   exact ⟨pU_ret HP.out, hb⟩
  | some n =>
   have hbd := Lib.atoi_bound hat (by simp; omega)
   have hn0 : -9223372036854775808 ≤ n := by omega
   have hn1 : n ≤ 9223372036854775807 := by omega
   have HA := Lib.hid (lib_strconv_Atoi s n (by omega) hat w)
   have HO : Hid (¬ (0 ≤ n ∧ n ≤ 1000000000 ∧ numS n = s) → pU s = (0, false)) := fun h2 => pU_other hat h2
   have hns := numS_size n (by omega)
   clear hat hbd
   go_enter Tryz.func114, Tryz.ntmps114
   go_wp2_with fail
   refine HA.out.mono ?_
   rintro e w1 ⟨rfl, t, rfl⟩
   have hb := Lib.bytesWorld_below w 5 t
   generalize Lib.bytesWorld w 5 t = w1 at *
   have ht1 := ht.below hb
   clear HA
   go_wp2_with fail
   refine twoI (within_any _ _ _ _) (fun hc hc0 hc1 => ?_) (fun hc => ?_)
   ·go_wp2_with fail
    refine (implFormatInt_any n w1 hn0 hn1 ht1).mono ?_
    rintro e w2 ⟨rfl, hb2⟩
    have hbb := bl_trans hb hb2
    by_cases hq : numS n = s
    ·have HG := Lib.hid (pU_good ⟨hc0, hc1⟩ hq)
     subst hq
     go_wp2_with fail
     go_ret2
     exact ⟨pU_ret HG.out, hbb⟩
    ·have HG := Lib.hid (HO.out (fun h => hq h.2.2))
     have hq1 := toL_ne hq
     clear hq
     go_wp2_with fail
     go_ret2
     exact ⟨pU_ret HG.out, hbb⟩
   ·have HG := Lib.hid (HO.out (fun h => inB_false.1 hc.out ⟨h.1, h.2.1⟩))
    go_wp2_with fail
    go_ret2
    exact ⟨pU_ret HG.out, hb⟩
open Go.RowKit
open Go.RowKit
def actWs : List ByteArray := [⟨#[]⟩, wHire, wTeach, wFront, wBack, wOrder, wShow, wWhy]
def kndTo (s : ByteArray) : Nat → Int
  | 0 => 0
  | k + 1 => if actWs.getD k ByteArray.empty = s then (k : Int) else kndTo s k
theorem kndTo_end (s : ByteArray) : kndTo s 8 = kindOf s := by
  by_cases h : s = ⟨#[]⟩ ∨ s = wHire ∨ s = wTeach ∨ s = wFront ∨ s = wBack ∨ s = wOrder ∨ s = wShow ∨ s = wWhy
  · rcases h with rfl | rfl | rfl | rfl | rfl | rfl | rfl | rfl <;> decide
  · simp only [not_or] at h
    obtain ⟨h0, h1, h2, h3, h4, h5, h6, h7⟩ := h
    unfold kindOf
    rw [if_neg h1, if_neg h2, if_neg h3, if_neg h4, if_neg h5, if_neg h6, if_neg h7]
    have e : ∀ {a : ByteArray}, ¬ s = a → ¬ a = s := fun h q => h q.symm
    simp only [kndTo, actWs, List.getD_cons_zero, List.getD_cons_succ]
    rw [if_neg (e h7), if_neg (e h6), if_neg (e h5), if_neg (e h4), if_neg (e h3), if_neg (e h2), if_neg (e h1), if_neg (e h0)]
theorem kndTo_y {s : ByteArray} {k : Nat} {x : ByteArray} (hx : actWs[k]? = some x) (h : x = s) : kndTo s (k + 1) = k := by
  rw [kndTo, List.getD_eq_getElem?_getD, hx]
  exact if_pos h
theorem kndTo_n {s : ByteArray} {k : Nat} {x : ByteArray} (hx : actWs[k]? = some x) (h : ¬ x = s) : kndTo s (k + 1) = kndTo s k := by
  rw [kndTo, List.getD_eq_getElem?_getD, hx]
  exact if_neg h
def aTo (fs : List ByteArray) (k : Nat) : Int := if 1 ≤ k then (pU (fs.getD 1 ByteArray.empty)).1 else 0
def bTo (fs : List ByteArray) (k : Nat) : Int := if 2 ≤ k then (pU (fs.getD 2 ByteArray.empty)).1 else 0
theorem impA_bad {fs : List ByteArray} (h3 : fs.length ≤ 3) {k : Nat} (hk : k + 1 < fs.length) (h : (pU fs[k + 1]).2 = false) : impA fs = ((0, 0, 0), false) := by
  match fs, h3, k, hk, h with
  | [_, x], _, 0, _, h => exact if_neg (fun q => by rw [show (pU x).2 = false from h] at q; cases q)
  | [_, x, y], _, 0, _, h => exact if_neg (fun q => by have := q.1; rw [show (pU x).2 = false from h] at this; cases this)
  | [_, x, y], _, 1, _, h => exact if_neg (fun q => by have := q.2; rw [show (pU y).2 = false from h] at this; cases this)
  | [], _, _, hk, _ => exact absurd hk (by simp)
  | [_], _, _, hk, _ => exact absurd hk (by simp)
  | [_, _], _, k + 1, hk, _ => exact absurd hk (by simp)
  | [_, _, _], _, k + 2, hk, _ => exact absurd hk (by simp)
  | _ :: _ :: _ :: _ :: _, h3, _, _, _ => exact absurd h3 (by simp)
theorem impA_end {fs : List ByteArray} (h0 : 0 < fs.length) (h3 : fs.length ≤ 3) (h : ∀ k : Nat, ∀ x, 1 ≤ k → fs[k]? = some x → (pU x).2 = true) : impA fs = finA (kindOf fs[0], aTo fs (fs.length - 1), bTo fs (fs.length - 1)) fs := by
  match fs, h0, h3, h with
  | [_], _, _, _ => rfl
  | [_, x], _, _, h => exact if_pos (h 1 x (by omega) rfl)
  | [_, x, y], _, _, h => exact if_pos ⟨h 1 x (by omega) rfl, h 2 y (by omega) rfl⟩
  | [], h0, _, _ => exact absurd h0 (by simp)
  | _ :: _ :: _ :: _ :: _, _, h3, _ => exact absurd h3 (by simp)
theorem aTo_one {fs : List ByteArray} (h : 1 < fs.length) : aTo fs 1 = (pU fs[1]).1 := by
  unfold aTo
  rw [if_pos (Nat.le_refl _), List.getD_eq_getElem?_getD, List.getElem?_eq_getElem h]; rfl
theorem bTo_two {fs : List ByteArray} (h : 2 < fs.length) : bTo fs 2 = (pU fs[2]).1 := by
  unfold bTo
  rw [if_pos (Nat.le_refl _), List.getD_eq_getElem?_getD, List.getElem?_eq_getElem h]; rfl
theorem join_fs (fs : List ByteArray) : baL (Lib.join (fs.map (fun s => s.data.toList)) [32]) = jnB fs := by
  rw [join_jn]; rfl
theorem jnB_size {fs : List ByteArray} (h3 : fs.length ≤ 3) (h : ∀ f ∈ fs, f.size ≤ 600) : (jnB fs).size ≤ 2000 := by
  have hs : (⟨#[32]⟩ : ByteArray).size = 1 := rfl
  match fs, h3, h with
  | [], _, _ => exact Nat.zero_le _
  | [a], _, h => rw [jnB_one]; have := h a List.mem_cons_self; omega
  | [a, b], _, h =>
    have e := jnB_snoc a b []
    rw [List.nil_append, jnB_one] at e
    rw [e, ByteArray.size_append, ByteArray.size_append, hs]
    have := h a (by simp)
    have := h b (by simp)
    omega
  | [a, b, c], _, h =>
    have e := jnB_snoc a c [b]
    have e2 := jnB_snoc a b []
    rw [List.nil_append, jnB_one] at e2
    rw [List.singleton_append] at e
    rw [e, e2, ByteArray.size_append, ByteArray.size_append, ByteArray.size_append, ByteArray.size_append, hs]
    have := h a (by simp)
    have := h b (by simp)
    have := h c (by simp)
    omega
  | _ :: _ :: _ :: _ :: _, h3, _ => exact absurd h3 (by simp)
theorem prsA_imp {s : ByteArray} (h : fldB s = true) : prsA s = impA (fldF s) := by
  unfold prsA
  rw [if_pos h, read_same]
set_option maxHeartbeats 16000000 in
set_option maxRecDepth 100000 in
theorem implParseAct_any (s : ByteArray) (w : World) (hs : s.size ≤ 9223372036854775807) (ht : TabOk w) (he : ErrOk w) :
    Calls Tryz.prog 66 #[.string s] w fun e w' => e = .returned (.tuple #[.agg #[.int .i64 (prsA s).1.1, .int .i64 (prsA s).1.2.1, .int .i64 (prsA s).1.2.2], .bool (prsA s).2]) ∧ Below w.heap.size w w' := by
  have hal : Below w.heap.size w (w.alloc (.cells #[.int .i64 0, .int .i64 0, .int .i64 0] 90)) := (Below.refl _ _).alloc (Nat.le_refl _) _
  have L0 : Loc (w.alloc (.cells #[.int .i64 0, .int .i64 0, .int .i64 0] 90)) w.heap.size [.int .i64 0, .int .i64 0, .int .i64 0] := Loc.new w #[.int .i64 0, .int .i64 0, .int .i64 0] 90
  have hF := fb_fldF s
  have hsz : ∀ f ∈ fldF s, f.size ≤ 600 := fun f hf => fldF_sz hf
  go_enter Tryz.func66, Tryz.ntmps66
  go_wp2_with fail
  refine (implSplitFields_any s _ hs).mono ?_
  rintro e w1 ⟨v, rfl, hr, hb1⟩
  have L := L0.below hb1
  have hb2 := bl_trans hal hb1
  have hz := hb2.size
  have ht1 := ht.below hb2
  have he1 := he.below hb2
  obtain ⟨g, hg⟩ : ∃ g, w.heap.size = g := ⟨_, rfl⟩
  rw [hg] at L ⊢
  have b0 := (L 0 _ rfl).1
  have b1 := (L 1 _ rfl).1
  have b2 := (L 2 _ rfl).1
  have f0 := (L 0 _ rfl).2
  have f1 := (L 1 _ rfl).2
  have f2 := (L 2 _ rfl).2
  have hgz : g < w1.heap.size := World.block_lt_of_cell? w1 _ b0
  clear L0 hb1 hal
  obtain ⟨A, c, rfl, h1, h2⟩ := hr.form
  by_cases hfb : fldB s = true
  · have hpi := prsA_imp hfb
    generalize hfs : fldF s = fs at *
    rw [hfb]
    by_cases h13 : 1 ≤ fs.length ∧ fs.length ≤ 3
    · have HP := Lib.hid hpi
      have HFB := Lib.hid hF
      have hi := inB_iff.2 (show (1 : Int) ≤ (fs.length : Int) ∧ (fs.length : Int) ≤ 3 by omega)
      clear hpi hF
      obtain ⟨g0, off0, rfl, hg0, hc0⟩ := hr.cell cStr_len (by omega) (show 0 < fs.length by omega)
      have k0 := hc0 0 _ rfl
      simp only [Nat.add_zero, Nat.zero_mul] at k0
      clear hc0
      go_wp2_with (go_at_call 76; refine (within_any _ _ _ _).mono ?_; rintro e wq ⟨rfl, rfl⟩; rw [hi])
      generalize hfz : fs[0] = fz at *
      have HFZ := Lib.hid hfz
      clear hfz
      have hb3 : Below w1.heap.size w1 ((w1.alloc (.cells #[.string ⟨#[]⟩, .string ⟨#[104, 105, 114, 101]⟩, .string ⟨#[116, 101, 97, 99, 104]⟩, .string ⟨#[102, 114, 111, 110, 116]⟩, .string ⟨#[98, 97, 99, 107]⟩, .string ⟨#[111, 114, 100, 101, 114]⟩, .string ⟨#[115, 104, 111, 119]⟩, .string ⟨#[119, 104, 121]⟩] 9)).alloc (.cells #[.int .i64 0, .int .i64 0, .int .i64 0] 90)) := by (repeat' (with_reducible first | exact Below.refl _ _ | assumption | refine qS ?_ _ | refine qA ?_ _ | refine qD ?_ | refine qN ?_ _))
      have LW : Loc ((w1.alloc (.cells #[.string ⟨#[]⟩, .string ⟨#[104, 105, 114, 101]⟩, .string ⟨#[116, 101, 97, 99, 104]⟩, .string ⟨#[102, 114, 111, 110, 116]⟩, .string ⟨#[98, 97, 99, 107]⟩, .string ⟨#[111, 114, 100, 101, 114]⟩, .string ⟨#[115, 104, 111, 119]⟩, .string ⟨#[119, 104, 121]⟩] 9)).alloc (.cells #[.int .i64 0, .int .i64 0, .int .i64 0] 90)) w1.heap.size (actWs.map Value.string) := (show Loc (w1.alloc (.cells #[.string ⟨#[]⟩, .string ⟨#[104, 105, 114, 101]⟩, .string ⟨#[116, 101, 97, 99, 104]⟩, .string ⟨#[102, 114, 111, 110, 116]⟩, .string ⟨#[98, 97, 99, 107]⟩, .string ⟨#[111, 114, 100, 101, 114]⟩, .string ⟨#[115, 104, 111, 119]⟩, .string ⟨#[119, 104, 121]⟩] 9)) w1.heap.size (actWs.map Value.string) from Loc.new w1 #[.string ⟨#[]⟩, .string ⟨#[104, 105, 114, 101]⟩, .string ⟨#[116, 101, 97, 99, 104]⟩, .string ⟨#[102, 114, 111, 110, 116]⟩, .string ⟨#[98, 97, 99, 107]⟩, .string ⟨#[111, 114, 100, 101, 114]⟩, .string ⟨#[115, 104, 111, 119]⟩, .string ⟨#[119, 104, 121]⟩] 9).below ((Below.refl _ _).alloc (Nat.le_refl _) _)
      have LB : Loc ((w1.alloc (.cells #[.string ⟨#[]⟩, .string ⟨#[104, 105, 114, 101]⟩, .string ⟨#[116, 101, 97, 99, 104]⟩, .string ⟨#[102, 114, 111, 110, 116]⟩, .string ⟨#[98, 97, 99, 107]⟩, .string ⟨#[111, 114, 100, 101, 114]⟩, .string ⟨#[115, 104, 111, 119]⟩, .string ⟨#[119, 104, 121]⟩] 9)).alloc (.cells #[.int .i64 0, .int .i64 0, .int .i64 0] 90)) (w1.heap.size + 1) [.int .i64 (kndTo fz 0), .int .i64 0, .int .i64 0] := by
        have h := Loc.new (w1.alloc (.cells #[.string ⟨#[]⟩, .string ⟨#[104, 105, 114, 101]⟩, .string ⟨#[116, 101, 97, 99, 104]⟩, .string ⟨#[102, 114, 111, 110, 116]⟩, .string ⟨#[98, 97, 99, 107]⟩, .string ⟨#[111, 114, 100, 101, 114]⟩, .string ⟨#[115, 104, 111, 119]⟩, .string ⟨#[119, 104, 121]⟩] 9)) #[.int .i64 0, .int .i64 0, .int .i64 0] 90
        rw [show (w1.alloc (.cells #[.string ⟨#[]⟩, .string ⟨#[104, 105, 114, 101]⟩, .string ⟨#[116, 101, 97, 99, 104]⟩, .string ⟨#[102, 114, 111, 110, 116]⟩, .string ⟨#[98, 97, 99, 107]⟩, .string ⟨#[111, 114, 100, 101, 114]⟩, .string ⟨#[115, 104, 111, 119]⟩, .string ⟨#[119, 104, 121]⟩] 9)).heap.size = w1.heap.size + 1 by simp] at h
        exact h
      go_wp2_with fail
      go_loopw [34] (fun i wr => ∃ k : Nat, k ≤ 8 ∧ i = .int .i64 k ∧ Loc wr w1.heap.size (actWs.map Value.string) ∧ Loc wr (w1.heap.size + 1) [.int .i64 (kndTo fz k), .int .i64 0, .int .i64 0] ∧ Below w1.heap.size w1 wr) (fun i _ => 8 - (intOf i).toNat)
      case atStart => exact ⟨0, Nat.zero_le _, rfl, LW, LB, hb3⟩
      case round =>
        obtain ⟨k, hk8, rfl, LW2, LB2, hb4⟩ := hrel
        clear LW LB hb3 b0 b1 b2 f0 f1 f2
        by_cases hlt : k < 8
        · obtain ⟨x, hx⟩ : ∃ x, actWs[k]? = some x := ⟨_, List.getElem?_eq_getElem (show k < actWs.length from hlt)⟩
          have q0 := (LW2 k (.string x) (by rw [List.getElem?_map, hx]; rfl)).1
          have HX := Lib.hid hx
          have k0' := carry hb4 k0
          have c0 := (LB2 0 _ rfl).1
          have d0 := (LB2 0 _ rfl).2
          have hki : (k : Int) < 8 := by omega
          clear hx k0
          by_cases hxe : x = fz
          · have HT : Hid (kndTo fz (k + 1) = k) := kndTo_y HX.out hxe
            subst hxe
            go_wp2_with fail
            go_roundw
            case rel =>
              refine ⟨k + 1, by omega, by go_num, LW2.far (by omega), ?_, by (repeat' (first | exact Below.refl _ _ | refine qS ?_ _ | refine qA ?_ _ | refine qD ?_ | refine qN ?_ _ | refine qT ?_ (by assumption)))⟩
              rw [HT.out]
              exact LB2.set (i := 0) (u := .int .i64 k) rfl
            case measure => simp [intOf]; omega
          · have HT : Hid (kndTo fz (k + 1) = kndTo fz k) := kndTo_n HX.out hxe
            have hne := toL_ne hxe
            go_wp2_with fail
            go_roundw
            case rel => exact ⟨k + 1, by omega, by go_num, LW2, by rw [HT.out]; exact LB2, hb4⟩
            case measure => simp [intOf]; omega
        · obtain rfl : k = 8 := by omega
          rw [kndTo_end] at LB2
          have hf1 : (1 : Int) ≤ (fs.length : Int) := by omega
          have hf2 : ¬ (fs.length : Int) < 1 := by omega
          clear LW2
          rcases Decidable.em (c = 1) with rfl | hcc
          all_goals
            go_wp2_with fail
            go_loopw [50] (fun i wr => ∃ j : Nat, j ≤ fs.length - 1 ∧ i = .int .i64 j ∧ Loc wr (w1.heap.size + 1) [.int .i64 (kindOf fz), .int .i64 (aTo fs j), .int .i64 (bTo fs j)] ∧ Hid (∀ (q : Nat) (x : ByteArray), 1 ≤ q → q ≤ j → fs[q]? = some x → (pU x).2 = true) ∧ Below w1.heap.size w1 wr) (fun i _ => fs.length - 1 - (intOf i).toNat)
            case atStart => exact ⟨0, Nat.zero_le _, rfl, by simpa [aTo, bTo] using LB2, fun q x h1 h2 => by omega, hb4⟩
            case round =>
              obtain ⟨j, hj, rfl, LB3, HU, hb5⟩ := hrel
              have LG3 := L.below hb5
              have hbT5 := bl_trans hb2 hb5
              clear LB2
              by_cases hlt : j < fs.length - 1
              · first
                | (exfalso; omega)
                | (have hj1 : j + 1 < fs.length := by omega
                   have HSZ : Hid (fs[j + 1].size ≤ 600) := hsz _ (List.getElem_mem hj1)
                   obtain ⟨g1, off1, hA1, hg1, hc1⟩ := (hr.below hb5).cell cStr_len (by omega) hj1
                   obtain ⟨rfl, rfl⟩ : g0 = g1 ∧ off0 = off1 := by simpa using hA1
                   have k1 := hc1 0 _ rfl
                   simp only [Nat.add_zero, Nat.mul_one] at k1
                   rw [show off0 + (j + 1) = off0 + 1 + j by omega] at k1
                   have hUN := fun W ht he => implParseUint_any fs[j + 1] W (by have := HSZ.out; omega) ht he
                   have HPB : Hid ((pU fs[j + 1]).2 = false → prsA s = ((0, 0, 0), false)) := fun h => HP.out.trans (impA_bad h13.2 hj1 h)
                   have HXJ : Hid (fs[j + 1]? = some fs[j + 1]) := List.getElem?_eq_getElem hj1
                   have HA1 : Hid (j = 0 → aTo fs (j + 1) = (pU fs[j + 1]).1 ∧ bTo fs (j + 1) = bTo fs j) := fun e => by subst e; exact ⟨aTo_one hj1, rfl⟩
                   have HA2 : Hid (j = 1 → aTo fs (j + 1) = aTo fs j ∧ bTo fs (j + 1) = (pU fs[j + 1]).1) := fun e => by subst e; exact ⟨rfl, bTo_two hj1⟩
                   have HJ01 : Hid (j = 0 ∨ j = 1) := show _ ∨ _ by omega
                   have hji : (j : Int) < ((fs.length - 1 : Nat) : Int) := by omega
                   clear hc1 hA1 k0
                   generalize fs[j + 1] = x at *
                   obtain ⟨pu, hpu⟩ : ∃ pu, pU x = pu := ⟨_, rfl⟩
                   rw [hpu] at hUN HPB HA1 HA2
                   obtain ⟨un, ub⟩ := pu
                   have HUN := Lib.hid hUN
                   have HPU := Lib.hid hpu
                   clear hUN hpu
                   go_wp2_with fail
                   refine (HUN.out wr (ht1.below hb5) (he1.below hb5)).mono ?_
                   rintro e w6 ⟨rfl, hb7⟩
                   have LG6 := LG3.below hb7
                   have LB6 := LB3.below hb7
                   have hb6 := bl_trans hb5 hb7
                   have hbT6 := bl_trans hb2 hb6
                   clear hb7 k1 LG3 LB3 hbT5 HUN
                   cases ub
                   · have HY : Hid (prsA s = ((0, 0, 0), false)) := HPB.out rfl
                     have c0 := (LG6 0 _ rfl).1
                     have c1 := (LG6 1 _ rfl).1
                     have c2 := (LG6 2 _ rfl).1
                     have d0 := (LG6 0 _ rfl).2
                     have d1 := (LG6 1 _ rfl).2
                     have d2 := (LG6 2 _ rfl).2
                     go_wp2_with fail
                     refine bodyPost_ret (v := .tuple #[.agg #[.int .i64 0, .int .i64 0, .int .i64 0], .bool false]) (by simp [results, Tryz.results66, go_sem, c0, c1, c2]) rfl ⟨by rw [HY.out], by subst hg; (repeat' (first | exact Below.refl _ _ | refine qS ?_ _ | refine qA ?_ _ | refine qD ?_ | refine qN ?_ _ | refine qT ?_ (by assumption)))⟩
                   · have HU2 : Hid (∀ (q : Nat) (y : ByteArray), 1 ≤ q → q ≤ j + 1 → fs[q]? = some y → (pU y).2 = true) := fun q y h1 h2 h3 => by
                       by_cases hq : q = j + 1
                       · subst hq
                         rw [HXJ.out] at h3
                         injection h3 with h3
                         rw [← h3, HPU.out]
                       · exact HU.out q y h1 (by omega) h3
                     have c0 := (LB6 0 _ rfl).1
                     have c1 := (LB6 1 _ rfl).1
                     have c2 := (LB6 2 _ rfl).1
                     have d0 := (LB6 0 _ rfl).2
                     have d1 := (LB6 1 _ rfl).2
                     have d2 := (LB6 2 _ rfl).2
                     rcases HJ01.out with e | e
                     · have hj0 : ((j : Int) == 0) = true := by rw [beq_iff_eq]; omega
                       go_wp2_with fail
                       go_roundw
                       case rel =>
                         refine ⟨j + 1, by omega, by go_num, ?_, HU2, Below.chg hb6 (S := [w1.heap.size + 1]) (by repeat' (with_reducible first | exact Chg.refl _ _ | refine qC ?_)) hb6.size (by simp)⟩
                         rw [(HA1.out e).1, (HA1.out e).2]
                         exact LB6.set (i := 1) (u := .int .i64 un) rfl
                       case measure => simp [intOf]; omega
                     · have hj0 : ((j : Int) == 0) = false := by rw [beq_eq_false_iff_ne]; omega
                       go_wp2_with fail
                       go_roundw
                       case rel =>
                         refine ⟨j + 1, by omega, by go_num, ?_, HU2, Below.chg hb6 (S := [w1.heap.size + 1]) (by repeat' (with_reducible first | exact Chg.refl _ _ | refine qC ?_)) hb6.size (by simp)⟩
                         rw [(HA2.out e).1, (HA2.out e).2]
                         exact LB6.set (i := 2) (u := .int .i64 un) rfl
                       case measure => simp [intOf]; omega)
              · have hje : j = fs.length - 1 := by omega
                have HE : Hid (prsA s = finA (kindOf fz, aTo fs j, bTo fs j) fs) := by
                  show _ = _
                  rw [HP.out, impA_end (by omega) h13.2 (fun k x h1 hx => HU.out k x h1 (by have := (List.getElem?_eq_some_iff.1 hx).1; omega) hx), HFZ.out, hje]
                have hji : ¬ (j : Int) < ((fs.length - 1 : Nat) : Int) := by omega
                have HJZ : Hid ((jnB fs).size ≤ 2000) := jnB_size h13.2 hsz
                generalize kindOf fz = kd at *
                generalize aTo fs j = na at *
                generalize bTo fs j = nb at *
                obtain ⟨t, hts⟩ : ∃ t, actS (kd, na, nb) = t := ⟨_, rfl⟩
                obtain ⟨bb, hbb⟩ : ∃ bb, actB kd na nb = bb := ⟨_, rfl⟩
                have hC := fun W hW => implFormatAct_any kd na nb W hW
                rw [hts, hbb] at hC
                have HC := Lib.hid hC
                have HTS := Lib.hid hts
                have HBB := Lib.hid hbb
                have c0 := (LB3 0 _ rfl).1
                have c1 := (LB3 1 _ rfl).1
                have c2 := (LB3 2 _ rfl).1
                clear hC hts hbb HU hje
                go_wp2_with fail
                refine (HC.out wr (ht1.below hb5)).mono ?_
                rintro e w6 ⟨rfl, hb7⟩
                have LG6 := LG3.below hb7
                have LB6 := LB3.below hb7
                have hb6 := bl_trans hb5 hb7
                have hbT6 := bl_trans hb2 hb6
                clear hb7 LG3 LB3 hbT5 c0 c1 c2 HC
                cases bb
                · have HY : Hid (prsA s = ((0, 0, 0), false)) := HE.out.trans (finA_n1 HBB.out)
                  have c0 := (LG6 0 _ rfl).1
                  have c1 := (LG6 1 _ rfl).1
                  have c2 := (LG6 2 _ rfl).1
                  have d0 := (LG6 0 _ rfl).2
                  have d1 := (LG6 1 _ rfl).2
                  have d2 := (LG6 2 _ rfl).2
                  go_wp2_with fail
                  refine bodyPost_ret (v := .tuple #[.agg #[.int .i64 0, .int .i64 0, .int .i64 0], .bool false]) (by simp [results, Tryz.results66, go_sem, c0, c1, c2]) rfl ⟨by rw [HY.out], by subst hg; (repeat' (first | exact Below.refl _ _ | refine qS ?_ _ | refine qA ?_ _ | refine qD ?_ | refine qN ?_ _ | refine qT ?_ (by assumption)))⟩
                · have HJ : Hid (∀ cq : Nat, fs.length ≤ cq → cq ≤ 9223372036854775807 → Calls Tryz.prog 40 #[.slice (some ⟨g0, off0, none⟩) fs.length cq, .string ⟨#[32]⟩] w6 fun e w' => e = .returned (.string (jnB fs)) ∧ Below w6.heap.size w6 w') := by
                    intro cq hq1 hq2
                    have e1 : (⟨(Lib.join (fs.map (·.data.toList)) [32]).toArray⟩ : ByteArray) = jnB fs := join_fs fs
                    have h5 : (⟨(Lib.join (fs.map (·.data.toList)) [32]).toArray⟩ : ByteArray).size = (Lib.join (fs.map (·.data.toList)) [32]).length := List.size_toArray
                    have hz9 := HJZ.out
                    rw [← e1, h5] at hz9
                    have hxs : ∀ (q : Nat) (x : ByteArray), fs[q]? = some x → w6.cell? ⟨g0, off0 + q, none⟩ = some (.string x) := fun q x hq => by
                      obtain ⟨hql, hqe⟩ := List.getElem?_eq_some_iff.1 hq
                      obtain ⟨g1, off1, hA1, _, hc1⟩ := (hr.below hb6).cell cStr_len (by omega) hql
                      obtain ⟨rfl, rfl⟩ : g0 = g1 ∧ off0 = off1 := by simpa using hA1
                      have k1 := hc1 0 _ rfl
                      simp only [Nat.add_zero, Nat.mul_one] at k1
                      rw [k1, hqe]
                    have hz6 := hb6.size
                    have hz10 : (Lib.join (fs.map (·.data.toList)) [32]).length ≤ 140737488355328 := by omega
                    have hJ := lib_strings_Join g0 off0 cq fs ⟨#[32]⟩ w6 hxs (by omega) (by omega) (by omega) hz10
                    exact hJ.mono fun e w' ⟨he, hw⟩ => ⟨by rw [he]; exact congrArg (fun x => Ending.returned (.string x)) e1, hw⟩
                  obtain ⟨jt, hjt⟩ : ∃ jt, jnB fs = jt := ⟨_, rfl⟩
                  rw [hjt] at HJ HJZ
                  have HJT := Lib.hid hjt
                  clear hjt
                  by_cases heq : t = jt
                  · have HY : Hid (prsA s = ((kd, na, nb), true)) := HE.out.trans (finA_y HBB.out HFB.out (HTS.out.trans (heq.trans HJT.out.symm)))
                    subst heq
                    go_wp2_with (go_at_call 40; refine (HJ.out _ (by omega) (by omega)).mono ?_; rintro e w7 ⟨rfl, hb8⟩; have LG7 := LG6.below hb8; have LB7 := LB6.below hb8; have hbT7 := bl_trans hbT6 hb8; have c0 := (LG7 0 _ rfl).1; have c1 := (LG7 1 _ rfl).1; have c2 := (LG7 2 _ rfl).1; have d0 := (LG7 0 _ rfl).2; have d1 := (LG7 1 _ rfl).2; have d2 := (LG7 2 _ rfl).2; have x0 := (LB7 0 _ rfl).1; have x1 := (LB7 1 _ rfl).1; have x2 := (LB7 2 _ rfl).1)
                    refine bodyPost_ret (v := .tuple #[.agg #[.int .i64 kd, .int .i64 na, .int .i64 nb], .bool true]) (by simp [results, Tryz.results66, go_sem, c0, c1, c2]) rfl ⟨by rw [HY.out], by subst hg; (repeat' (first | exact Below.refl _ _ | refine qS ?_ _ | refine qA ?_ _ | refine qD ?_ | refine qN ?_ _ | refine qT ?_ (by assumption)))⟩
                  · have HY : Hid (prsA s = ((0, 0, 0), false)) := HE.out.trans (finA_n2 HFB.out (fun h => heq (HTS.out.symm.trans (h.trans HJT.out))))
                    have hne := toL_ne heq
                    go_wp2_with (go_at_call 40; refine (HJ.out _ (by omega) (by omega)).mono ?_; rintro e w7 ⟨rfl, hb8⟩; have LG7 := LG6.below hb8; have hbT7 := bl_trans hbT6 hb8; have c0 := (LG7 0 _ rfl).1; have c1 := (LG7 1 _ rfl).1; have c2 := (LG7 2 _ rfl).1; have d0 := (LG7 0 _ rfl).2; have d1 := (LG7 1 _ rfl).2; have d2 := (LG7 2 _ rfl).2)
                    refine bodyPost_ret (v := .tuple #[.agg #[.int .i64 0, .int .i64 0, .int .i64 0], .bool false]) (by simp [results, Tryz.results66, go_sem, c0, c1, c2]) rfl ⟨by rw [HY.out], by subst hg; (repeat' (first | exact Below.refl _ _ | refine qS ?_ _ | refine qA ?_ _ | refine qD ?_ | refine qN ?_ _ | refine qT ?_ (by assumption)))⟩
    · have hp : prsA s = ((0, 0, 0), false) := by
        unfold prsA spcA
        rw [if_pos hfb, hfs, if_pos (by omega)]
      have HP := Lib.hid hp
      have hi := inB_false.2 (show ¬ ((1 : Int) ≤ (fs.length : Int) ∧ (fs.length : Int) ≤ 3) by omega)
      clear hp hpi
      go_wp2_with (go_at_call 76; refine (within_any _ _ _ _).mono ?_; rintro e wq ⟨rfl, rfl⟩; rw [hi])
      refine bodyPost_ret (v := .tuple #[.agg #[.int .i64 0, .int .i64 0, .int .i64 0], .bool false]) (by simp [results, Tryz.results66, go_sem, b0, b1, b2]) rfl ⟨by rw [HP.out], by subst hg; (repeat' (first | exact Below.refl _ _ | refine qS ?_ _ | refine qA ?_ _ | refine qD ?_ | refine qN ?_ _ | refine qT ?_ (by assumption)))⟩
  · have hp : prsA s = ((0, 0, 0), false) := by unfold prsA; rw [if_neg hfb]
    have HP := Lib.hid hp
    rw [Bool.not_eq_true] at hfb
    rw [hfb]
    clear hp
    go_wp2_with fail
    refine bodyPost_ret (v := .tuple #[.agg #[.int .i64 0, .int .i64 0, .int .i64 0], .bool false]) (by simp [results, Tryz.results66, go_sem, b0, b1, b2]) rfl ⟨by rw [HP.out], by subst hg; (repeat' (first | exact Below.refl _ _ | refine qS ?_ _ | refine qA ?_ _ | refine qD ?_ | refine qN ?_ _ | refine qT ?_ (by assumption)))⟩
end Go.Proofs.YtdhmhgjjppeodaaGreatDoor
