/- Contracts: AddShow, TeachPuppet. Written by a program (gen_t3.py). -/
import Derived.Test.YtkejgogheonakaaT2
import Derived.Test.YtkejgogheonakaaM11
import Derived.Test.YtkejgogheonakaaKC
import Derived.Test.YtkejgogheonakaaV3
import Derived.Deep.DeepCutAuto
namespace Go.Proofs.Ytkejgogheonakaa
open Go.RowKit
theorem rdS_zero {w : World} {A : Option Addr} {c : Nat} {xs : List Value} (hx : xs = []) (hc : c ≤ maxLen) : RdS w 1 (.slice A 0 c) 0 xs := ⟨by subst hx; rfl, A, c, rfl, Nat.zero_le _, hc, fun h => absurd h (by omega)⟩
/-- x[p:]: at its full capacity the address stays. -/
theorem rdS_dropA {w : World} {g off n c p : Nat} {xs : List Value} (h : RdS w 1 (.slice (some ⟨g, off, none⟩) n c) n xs) (hp : p ≤ n) : RdS w 1 (.slice (some (if p = c then ⟨g, off, none⟩ else ⟨g, off + p, none⟩)) (n - p) (c - p)) (n - p) (xs.drop p) := by
  split
  · rename_i e
    obtain ⟨h1, A, c', he, h3, h4, h5⟩ := h
    injection he with _ _ e3
    subst e3 e
    have : n = p := by omega
    subst this
    exact ⟨by rw [List.length_drop, h1]; omega, _, _, rfl, by omega, by omega, fun hpos => by omega⟩
  · exact rdS_drop h hp
/-- A list and whether something was done are returned, the list in blocks of the call's own. -/
def RetDays (r : List Int × Bool) (w : World) (e : Ending) (w' : World) : Prop := ∃ v S, e = .returned (.tuple #[v, .bool r.2]) ∧ OwL 3 cInt 1 w' S v r.1 ∧ Fresh w.heap.size w' S ∧ Below w.heap.size w w'
theorem retDays_of {r : List Int × Bool} {l : List Int} {b : Bool} {w w' : World} {v : Value} {B : Nat} (hr : r = (l, b)) (hown : w'.ownsRow B 3 1 v l.length (l.flatMap cInt)) (hB : w.heap.size ≤ B) (hb : Below w.heap.size w w') : RetDays r w (.returned (.tuple #[v, .bool b])) w' := by
  subst hr
  exact ⟨v, _, rfl, ⟨own_mono hown (Nat.zero_le _), rfl⟩, fresh_of (own_mono hown hB), hb⟩
set_option maxHeartbeats 1000000 in
theorem implAddShow_any (v : Value) (l : List Int) (d : Int) (w : World) (h : RdL cInt 1 w v l) (hl : l.length ≤ 1048576) :
    Calls Try.prog 121 #[v, .int .i64 d] w (RetDays (addF l d) w) := by
  have h0 := h
  obtain ⟨A, c, rfl, h1, h2⟩ := h.form
  go_enter Try.func121, Try.ntmps121
  go_wp2_with fail
  refine (put_any _ l d _ h0 (by omega)).mono ?_
  rintro e w1 ⟨v1, rfl, hown1, hb1⟩
  have h3 := h0.below hb1
  obtain ⟨A1, c1, rfl, _, _⟩ := (RdS.of_own hown1).form
  go_wp2_with fail
  refine twoB (implSeasonOk_any _ l _ h3) (fun w2 hq hb2 => ?_) (fun w2 hq hb2 => ?_)
  · have hown2 := own_below hown1 hb2
    have h4 := h3.below hb2
    have hbb := bl_trans hb1 hb2
    go_wp2_with fail
    refine twoB (implSeasonOk_any _ (putF d l) _ (RdS.of_own hown2)) (fun w3 hq3 hb3 => ?_) (fun w3 hq3 hb3 => ?_)
    · go_wp2_with fail
      go_ret2
      exact retDays_of (addF_t hq.out hq3.out) (own_below hown2 hb3) (Nat.le_refl _) (bl_trans hbb hb3)
    · go_wp2_with fail
      refine (copyOf_any _ l _ (h4.below hb3) (by omega)).mono ?_
      rintro e w4 ⟨v4, rfl, hown4, hb4⟩
      obtain ⟨A4, c4, rfl, _, _⟩ := (RdS.of_own hown4).form
      have hz := (bl_trans hbb hb3).size
      go_wp2_with fail
      go_ret2
      exact retDays_of (addF_f2 hq3.out) hown4 hz (bl_trans (bl_trans hbb hb3) hb4)
  · have hbb := bl_trans hb1 hb2
    have h4 := h3.below hb2
    have hz := hbb.size
    go_wp2_with fail
    refine (copyOf_any _ l _ h4 (by omega)).mono ?_
    rintro e w4 ⟨v4, rfl, hown4, hb4⟩
    obtain ⟨A4, c4, rfl, _, _⟩ := (RdS.of_own hown4).form
    go_wp2_with fail
    go_ret2
    exact retDays_of (addF_f1 hq.out) hown4 hz (bl_trans hbb hb4)
theorem act47as {a : Act} (h : a.tmps.size = 47) (hd : a.defers = []) : ∃ x0 x1 x2 x3 x4 x5 x6 x7 x8 x9 x10 x11 x12 x13 x14 x15 x16 x17 x18 x19 x20 x21 x22 x23 x24 x25 x26 x27 x28 x29 x30 x31 x32 x33 x34 x35 x36 x37 x38 x39 x40 x41 x42 x43 x44 x45 x46 : Value, a = ⟨#[x0, x1, x2, x3, x4, x5, x6, x7, x8, x9, x10, x11, x12, x13, x14, x15, x16, x17, x18, x19, x20, x21, x22, x23, x24, x25, x26, x27, x28, x29, x30, x31, x32, x33, x34, x35, x36, x37, x38, x39, x40, x41, x42, x43, x44, x45, x46], []⟩ := by
  obtain ⟨⟨l⟩, d⟩ := a
  subst hd
  match l, h with
  | x0 :: x1 :: x2 :: x3 :: x4 :: x5 :: x6 :: x7 :: x8 :: x9 :: x10 :: x11 :: x12 :: x13 :: x14 :: x15 :: x16 :: x17 :: x18 :: x19 :: x20 :: x21 :: x22 :: x23 :: x24 :: x25 :: x26 :: x27 :: x28 :: x29 :: x30 :: x31 :: x32 :: x33 :: x34 :: x35 :: x36 :: x37 :: x38 :: x39 :: x40 :: x41 :: x42 :: x43 :: x44 :: x45 :: x46 :: [], _ => exact ⟨x0, x1, x2, x3, x4, x5, x6, x7, x8, x9, x10, x11, x12, x13, x14, x15, x16, x17, x18, x19, x20, x21, x22, x23, x24, x25, x26, x27, x28, x29, x30, x31, x32, x33, x34, x35, x36, x37, x38, x39, x40, x41, x42, x43, x44, x45, x46, rfl⟩
def asgP (W : World) (xv : Value) (p m : Nat) (kk : Int) (L1 L2 : List Value) (i : Nat) (v : Value) (_ : Nat → Nat) (w : World) : Prop :=
  match i with
  | 0 => ∃ g, v = .slice (some ⟨g, 0, none⟩) 0 0 ∧ w.ownsRow W.heap.size 3 1 v 0 ([])
  | 1 => v = xv
  | 2 => v = .int .i64 p
  | 3 => RdS W 1 v p L1
  | 4 => w.ownsRow W.heap.size 3 1 v p (L1)
  | 5 => v = .int .i64 kk
  | 6 => RdS w 1 v 1 [Value.int .i64 kk]
  | 7 => w.ownsRow W.heap.size 3 1 v (p + 1) (L1 ++ [Value.int .i64 kk])
  | 8 => v = xv
  | 9 => v = .int .i64 p
  | 10 => RdS W 1 v m L2
  | 11 => w.ownsRow W.heap.size 3 1 v (p + 1 + m) ((L1 ++ [Value.int .i64 kk]) ++ L2)
  | _ => True
def asgNeed (k : Nat) : List Nat := if k = 3 then [1, 2] else if k = 4 then [0, 3] else if k = 6 then [5] else if k = 7 then [4, 6] else if k = 10 then [8, 9] else if k = 11 then [7, 10] else []
def asgBef (k : Nat) : List Nat := if k = 3 then [1, 2] else if k = 4 then [0, 3, 1, 2] else if k = 6 then [5] else if k = 7 then [4, 0, 3, 1, 2, 6, 5] else if k = 10 then [8, 9] else if k = 11 then [7, 4, 0, 3, 1, 2, 6, 5, 10, 8, 9] else []
def asgR (k : Nat) (_ : Nat → Nat) (w w' : World) : Prop := k = 7 ∨ k = 11 ∨  Below w.heap.size w w'
set_option maxHeartbeats 8000000 in
set_option maxRecDepth 100000 in
theorem specAddShow_any (v : Value) (l : List Int) (dy : Int) (w : World) (h : RdL cInt 1 w v l) (hl : l.length ≤ 1048576) :
    Calls Try.prog 120 #[v, .int .i64 dy] w (RetDays (addF l dy) w) := by
  have h0 := h
  obtain ⟨A, c, rfl, h1, h2⟩ := h.form
  obtain ⟨iI, hiI, hzI0, hzI1, hzI2⟩ := info_parts infoInt
  have hown0 := World.ownsRow_made (size := 1) (e := 3) w #[] 0 (Nat.le_refl _) (by simp [maxLen]) rfl
  go_enter Try.func120, Try.ntmps120
  go_wp2_with (at_builtin; refine wpList_append_empty _ rfl (.tmp 9) (.tmp 10) _ rfl w.heap.size 3 iI _ 1 8 Try.underlying26 hiI hzI0 hzI1 hzI2 rfl (by omega) w.heap.size rfl hown0 _ l.length (l.flatMap cInt) rfl (RdS.below h0 ((Below.refl _ _).alloc (Nat.le_refl _) _)) (oneCell_flat cInt_one l) (by simp [maxLen] <;> omega) (by omega) (by simp) ?_; intro v1 w1 own1 b1 at1)
  have hb1 : Below w.heap.size w w1 := bl_alloc b1
  obtain ⟨A1, c1, rfl, _, _⟩ := (RdS.of_own own1).form
  have h3 := h0.below hb1
  go_wp2_with fail
  refine twoB (specSeasonOk_any _ l _ h3) (fun w2 hq hb2 => ?_) (fun w2 hq hb2 => ?_)
  · have own2 := own_below own1 hb2
    have h4 := h3.below hb2
    have hbb := bl_trans hb1 hb2
    have hz2 := hbb.size
    have hl60 := (season_bd hq.out).1
    clear h3 own1 hb1 b1 hb2
    go_wp2_with fail
    go_loop [7] (fun i => ∃ k : Nat, k ≤ l.length ∧ i = .int .i64 k ∧ Hid (∀ j (hj : j < l.length), j < k → l[j] < dy)) (fun i => l.length - (intOf i).toNat)
    case atStart => exact ⟨0, Nat.zero_le _, rfl, fun j _ hj => absurd hj (by omega)⟩
    case round =>
      obtain ⟨k, hk, rfl, hall⟩ := hrel
      have hstop : ∀ W : World, RdL cInt 1 W (.slice A l.length c) l → (k = l.length ∨ (∃ hk : k < l.length, ¬ l[k] < dy)) → atF dy l = k := fun _ _ hh => atF_of l k hk hall.out (fun hk' => by rcases hh with h | ⟨_, h⟩; omega; exact h)
      have Hstop := Lib.hid hstop
      clear hstop
      by_cases hlt : k < l.length
      · obtain ⟨g, off, rfl, hg, hc⟩ := h4.cell cInt_len (by omega) hlt
        have k0 := hc 0 _ rfl
        simp only [Nat.add_zero, Nat.mul_one] at k0
        clear hc
        by_cases hx : l[k] < dy
        · have Hx := Lib.hid hx
          go_wp2_with fail
          go_round
          case rel => exact ⟨k + 1, by omega, by go_num, (fun j hj hjk => by
            rcases Nat.lt_succ_iff_lt_or_eq.1 hjk with h | rfl
            · exact hall.out j hj h
            · exact Hx.out)⟩
          case measure => simp [intOf]; omega
        · have hat := Hstop.out _ h4 (.inr ⟨hlt, hx⟩)
          have hkl : k ≤ l.length := by omega
          have hlW := h4
          obtain ⟨L1, hL1⟩ : ∃ L1, (l.take k).flatMap cInt = L1 := ⟨_, rfl⟩
          obtain ⟨L2, hL2⟩ : ∃ L2, (l.drop k).flatMap cInt = L2 := ⟨_, rfl⟩
          have hone1 : ∀ y ∈ L1, y.oneCell' = true := by rw [← hL1]; exact oneCell_flat cInt_one _
          have hone2 : ∀ y ∈ L2, y.oneCell' = true := by rw [← hL2]; exact oneCell_flat cInt_one _
          have hs1 : RdS w2 1 (.slice (some ⟨g, off, none⟩) k c) k L1 := by rw [← hL1, flatI_take]; exact rdS_take h4 hkl
          have hs2 : ∀ j, RdS w2 1 (.slice (some ⟨g, off + k, none⟩) j (c - k)) j L2 ∨ True := fun _ => .inr trivial
          have hd2 : RdS w2 1 (.slice (some ⟨g, off + k, none⟩) (l.length - k) (c - k)) (l.length - k) L2 := by rw [← hL2, flatI_drop]; exact rdS_drop h4 hkl
          have hd3 : RdS w2 1 (.slice (some (if k = c then ⟨g, off, none⟩ else ⟨g, off + k, none⟩)) (l.length - k) (c - k)) (l.length - k) L2 := by rw [← hL2, flatI_drop]; exact rdS_dropA h4 hkl
          have hfl := putF_flat dy l
          rw [hat, hL1, hL2] at hfl
          have Hfl := Lib.hid hfl
          have hlen := putF_len dy l
          have Hlen := Lib.hid hlen
          clear hfl hlen
          go_upto_region 7 with (fail)
          refine region_state (n := 47) 12 (by kernel_rfl) rfl (by kernel_rfl) asgBef asgNeed [11] (by kernel_rfl) asgR (fun _ w' => Below w2.heap.size w2 w') (fun _ => 0) (asgP w2 (.slice (some ⟨g, off, none⟩) l.length c) k (l.length - k) dy L1 L2) ((Below.refl _ _).drew) ?_ ?_ ?_
          · intro i k v gh gh' w1 w2 hal hp hJ hR hg
            match i, hp, hal with
            | 0, ho, hal =>
              rcases hR with rfl | rfl | hb
              · exact absurd hal (by decide)
              · exact absurd hal (by decide)
              · obtain ⟨g, h1, h2⟩ := ho; exact ⟨g, h1, own_below h2 hb⟩
            | 1, hp, _ => exact hp
            | 2, hp, _ => exact hp
            | 3, hp, _ => exact hp
            | 4, ho, hal =>
              rcases hR with rfl | rfl | hb
              · exact absurd hal (by decide)
              · exact absurd hal (by decide)
              · exact own_below ho hb
            | 5, hp, _ => exact hp
            | 6, ho, hal =>
              rcases hR with rfl | rfl | hb
              · exact absurd hal (by decide)
              · exact absurd hal (by decide)
              · exact RdS.below ho hb
            | 7, ho, hal =>
              rcases hR with rfl | rfl | hb
              · exact absurd hal (by decide)
              · exact absurd hal (by decide)
              · exact own_below ho hb
            | 8, hp, _ => exact hp
            | 9, hp, _ => exact hp
            | 10, hp, _ => exact hp
            | 11, ho, hal =>
              rcases hR with rfl | rfl | hb
              · exact absurd hal (by decide)
              · exact absurd hal (by decide)
              · exact own_below ho hb
            | _ + 12, _, _ => trivial
          · refine ⟨?_, ?_, ?_, ?_, ?_, ?_, ?_, ?_, ?_, ?_, ?_, ?_, trivial⟩
            all_goals
              intro a gh wr d hag hdi hcl hJ hd
              obtain ⟨x0, x1, x2, x3, x4, x5, x6, x7, x8, x9, x10, x11, x12, x13, x14, x15, x16, x17, x18, x19, x20, x21, x22, x23, x24, x25, x26, x27, x28, x29, x30, x31, x32, x33, x34, x35, x36, x37, x38, x39, x40, x41, x42, x43, x44, x45, x46, rfl⟩ := act47as hag.size hag.defers
              have ag0 : x0 = .slice (some ⟨g, off, none⟩) l.length c := hag.kept 0 (by kernel_rfl)
              have ag1 : x1 = .int .i64 dy := hag.kept 1 (by kernel_rfl)
              have ag6 : x6 = .slice A1 l.length c1 := hag.kept 6 (by kernel_rfl)
              have ag7 : x7 = .int .i64 (k : Nat) := hag.kept 7 (by kernel_rfl)
              clear hag
              subst ag0 ag1 ag6 ag7
            · go_wp2_with fail
              exact ⟨rfl, _, rfl, ⟨wr.heap.size, rfl, World.ownsRow_made (size := 1) (e := 3) wr #[] 0 hJ.size (by simp [maxLen]) rfl⟩, hJ.alloc hJ.size _, .inr (.inr ((Below.refl _ _).alloc (Nat.le_refl _) _))⟩
            · go_wp2_with fail
              exact ⟨rfl, _, rfl, rfl, hJ, .inr (.inr (Below.refl _ _))⟩
            · go_wp2_with fail
              exact ⟨rfl, _, rfl, rfl, hJ, .inr (.inr (Below.refl _ _))⟩
            · have e1 : x31 = .slice (some ⟨g, off, none⟩) l.length c := hd 1 (by kernel_rfl) _ rfl
              have e2 : x32 = .int .i64 (k) := hd 2 (by kernel_rfl) _ rfl
              subst e1 e2
              go_wp2_with fail
              all_goals
                refine ⟨rfl, _, rfl, ?_, hJ, .inr (.inr (Below.refl _ _))⟩
                first | exact hs1 | (simp; exact hs1) | (simp at hs1; exact hs1)
            · obtain ⟨g1, e1, og⟩ : ∃ g, x30 = Value.slice (some ⟨g, 0, none⟩) 0 0 ∧ wr.ownsRow w2.heap.size 3 1 x30 0 ([]) := hd 0 (by kernel_rfl) _ rfl
              have hs1 : RdS w2 1 x33 (k) L1 := hd 3 (by kernel_rfl) _ rfl
              subst e1
              go_wp2_with (at_builtin; refine wpList_append_empty _ rfl (.tmp 30) (.tmp 33) _ rfl w2.heap.size 3 iI _ 1 8 Try.underlying26 hiI hzI0 hzI1 hzI2 rfl (by omega) g1 rfl og _ (k) L1 rfl (hs1.below hJ) hone1 (by simp [maxLen] <;> omega) (by omega) hJ.size ?_; intro v3 w3 own3 b3 at3)
              exact ⟨rfl, _, rfl, own3, hJ.trans (b3.mono hJ.size), .inr (.inr (b3))⟩
            · go_wp2_with fail
              exact ⟨rfl, _, rfl, rfl, hJ, .inr (.inr (Below.refl _ _))⟩
            · have e1 : x35 = .int .i64 dy := hd 5 (by kernel_rfl) _ rfl
              subst e1
              go_wp2_with fail
              exact ⟨rfl, _, rfl, rdS_new wr #[.int .i64 dy] _ 1 1 rfl (by simp [maxLen]), hJ.alloc hJ.size _, .inr (.inr ((Below.refl _ _).alloc (Nat.le_refl _) _))⟩
            · have og : wr.ownsRow w2.heap.size 3 1 x34 (k) (L1) := hd 4 (by kernel_rfl) _ rfl
              have ok : RdS wr 1 x36 1 [Value.int .i64 dy] := hd 6 (by kernel_rfl) _ rfl
              obtain ⟨Aa, ca, e0, _, _⟩ := (RdS.of_own og).form
              go_wp2_with (at_builtin; refine wpList_appendB _ rfl (.tmp 34) (.tmp 36) _ rfl w2.heap.size 3 iI _ 1 8 Try.underlying26 hiI hzI0 hzI1 hzI2 rfl (by omega) x34 (k) (L1) rfl og _ 1 _ rfl ok (by simp [Value.oneCell']) (by simp [maxLen] <;> omega) (by omega) hJ.size ?_; intro v3 w3 own3 gr3 at3)
              exact ⟨rfl, _, rfl, own3, hJ.trans (below_own og gr3 hJ.size), .inl rfl⟩
            · go_wp2_with fail
              exact ⟨rfl, _, rfl, rfl, hJ, .inr (.inr (Below.refl _ _))⟩
            · go_wp2_with fail
              exact ⟨rfl, _, rfl, rfl, hJ, .inr (.inr (Below.refl _ _))⟩
            · have e1 : x38 = .slice (some ⟨g, off, none⟩) l.length c := hd 8 (by kernel_rfl) _ rfl
              have e2 : x39 = .int .i64 (k) := hd 9 (by kernel_rfl) _ rfl
              subst e1 e2
              go_wp2_with fail
              all_goals
                refine ⟨rfl, _, rfl, ?_, hJ, .inr (.inr (Below.refl _ _))⟩
                first | exact hd2 | (rw [if_pos (show k = c by omega), show c - k = 0 by omega] at hd3; exact hd3) | (simp at hd3 ⊢; exact hd3)
            · have og : wr.ownsRow w2.heap.size 3 1 x37 (k + 1) (L1 ++ [Value.int .i64 dy]) := hd 7 (by kernel_rfl) _ rfl
              have hs2 : RdS w2 1 x40 (l.length - k) L2 := hd 10 (by kernel_rfl) _ rfl
              obtain ⟨Aa, ca, e0, _, _⟩ := (RdS.of_own og).form
              go_wp2_with (at_builtin; refine wpList_appendB _ rfl (.tmp 37) (.tmp 40) _ rfl w2.heap.size 3 iI _ 1 8 Try.underlying26 hiI hzI0 hzI1 hzI2 rfl (by omega) x37 (k + 1) (L1 ++ [Value.int .i64 dy]) rfl og _ (l.length - k) _ rfl (hs2.below hJ) hone2 (by simp [maxLen] <;> omega) (by omega) hJ.size ?_; intro v3 w3 own3 gr3 at3)
              exact ⟨rfl, _, rfl, own3, hJ.trans (below_own og gr3 hJ.size), .inr (.inl rfl)⟩
          · intro a gh wr d hag hall hJ hd
            obtain ⟨x0, x1, x2, x3, x4, x5, x6, x7, x8, x9, x10, x11, x12, x13, x14, x15, x16, x17, x18, x19, x20, x21, x22, x23, x24, x25, x26, x27, x28, x29, x30, x31, x32, x33, x34, x35, x36, x37, x38, x39, x40, x41, x42, x43, x44, x45, x46, rfl⟩ := act47as hag.size hag.defers
            have ag0 : x0 = .slice (some ⟨g, off, none⟩) l.length c := hag.kept 0 (by kernel_rfl)
            have ag1 : x1 = .int .i64 dy := hag.kept 1 (by kernel_rfl)
            have ag6 : x6 = .slice A1 l.length c1 := hag.kept 6 (by kernel_rfl)
            have ag7 : x7 = .int .i64 (k : Nat) := hag.kept 7 (by kernel_rfl)
            clear hag
            subst ag0 ag1 ag6 ag7
            have hown : wr.ownsRow w2.heap.size 3 1 x41 (k + 1 + (l.length - k)) ((L1 ++ [Value.int .i64 dy]) ++ L2) := hd 11 (by kernel_rfl) _ rfl
            clear hd
            rw [Hfl.out, show k + 1 + (l.length - k) = (putF dy l).length by rw [Hlen.out]; omega] at hown
            obtain ⟨A9, c9, e9, _, _⟩ := (RdS.of_own hown).form
            subst e9
            have hbr := hJ
            have h9 := h4.below hbr
            have own3 := own_below own2 hbr
            have hb9 := bl_trans hbb hbr
            change wpList _ _ _ [_] _ _
            go_wp2_with fail
            refine twoB (specSeasonOk_any _ (putF dy l) _ (RdS.of_own hown)) (fun w5 hq5 hb5 => ?_) (fun w5 hq5 hb5 => ?_)
            · go_wp2_with fail
              go_ret2
              exact retDays_of (addF_t hq.out hq5.out) (own_below hown hb5) hz2 (bl_trans hb9 hb5)
            · go_wp2_with fail
              go_ret2
              exact retDays_of (addF_f2 hq5.out) (own_below own3 hb5) (Nat.le_refl _) (bl_trans hb9 hb5)
      · have hat := Hstop.out _ h4 (.inl (by omega))
        by_cases h00 : 0 < l.length
        · obtain ⟨g, off, rfl, hg, hc⟩ := h4.cell (k := 0) cInt_len (by omega) h00
          clear hc
          have hkl : k ≤ l.length := by omega
          have hlW := h4
          obtain ⟨L1, hL1⟩ : ∃ L1, (l.take k).flatMap cInt = L1 := ⟨_, rfl⟩
          obtain ⟨L2, hL2⟩ : ∃ L2, (l.drop k).flatMap cInt = L2 := ⟨_, rfl⟩
          have hone1 : ∀ y ∈ L1, y.oneCell' = true := by rw [← hL1]; exact oneCell_flat cInt_one _
          have hone2 : ∀ y ∈ L2, y.oneCell' = true := by rw [← hL2]; exact oneCell_flat cInt_one _
          have hs1 : RdS w2 1 (.slice (some ⟨g, off, none⟩) k c) k L1 := by rw [← hL1, flatI_take]; exact rdS_take h4 hkl
          have hs2 : ∀ j, RdS w2 1 (.slice (some ⟨g, off + k, none⟩) j (c - k)) j L2 ∨ True := fun _ => .inr trivial
          have hd2 : RdS w2 1 (.slice (some ⟨g, off + k, none⟩) (l.length - k) (c - k)) (l.length - k) L2 := by rw [← hL2, flatI_drop]; exact rdS_drop h4 hkl
          have hd3 : RdS w2 1 (.slice (some (if k = c then ⟨g, off, none⟩ else ⟨g, off + k, none⟩)) (l.length - k) (c - k)) (l.length - k) L2 := by rw [← hL2, flatI_drop]; exact rdS_dropA h4 hkl
          have hfl := putF_flat dy l
          rw [hat, hL1, hL2] at hfl
          have Hfl := Lib.hid hfl
          have hlen := putF_len dy l
          have Hlen := Lib.hid hlen
          clear hfl hlen
          go_upto_region 7 with (fail)
          refine region_state (n := 47) 12 (by kernel_rfl) rfl (by kernel_rfl) asgBef asgNeed [11] (by kernel_rfl) asgR (fun _ w' => Below w2.heap.size w2 w') (fun _ => 0) (asgP w2 (.slice (some ⟨g, off, none⟩) l.length c) k (l.length - k) dy L1 L2) ((Below.refl _ _).drew) ?_ ?_ ?_
          · intro i k v gh gh' w1 w2 hal hp hJ hR hg
            match i, hp, hal with
            | 0, ho, hal =>
              rcases hR with rfl | rfl | hb
              · exact absurd hal (by decide)
              · exact absurd hal (by decide)
              · obtain ⟨g, h1, h2⟩ := ho; exact ⟨g, h1, own_below h2 hb⟩
            | 1, hp, _ => exact hp
            | 2, hp, _ => exact hp
            | 3, hp, _ => exact hp
            | 4, ho, hal =>
              rcases hR with rfl | rfl | hb
              · exact absurd hal (by decide)
              · exact absurd hal (by decide)
              · exact own_below ho hb
            | 5, hp, _ => exact hp
            | 6, ho, hal =>
              rcases hR with rfl | rfl | hb
              · exact absurd hal (by decide)
              · exact absurd hal (by decide)
              · exact RdS.below ho hb
            | 7, ho, hal =>
              rcases hR with rfl | rfl | hb
              · exact absurd hal (by decide)
              · exact absurd hal (by decide)
              · exact own_below ho hb
            | 8, hp, _ => exact hp
            | 9, hp, _ => exact hp
            | 10, hp, _ => exact hp
            | 11, ho, hal =>
              rcases hR with rfl | rfl | hb
              · exact absurd hal (by decide)
              · exact absurd hal (by decide)
              · exact own_below ho hb
            | _ + 12, _, _ => trivial
          · refine ⟨?_, ?_, ?_, ?_, ?_, ?_, ?_, ?_, ?_, ?_, ?_, ?_, trivial⟩
            all_goals
              intro a gh wr d hag hdi hcl hJ hd
              obtain ⟨x0, x1, x2, x3, x4, x5, x6, x7, x8, x9, x10, x11, x12, x13, x14, x15, x16, x17, x18, x19, x20, x21, x22, x23, x24, x25, x26, x27, x28, x29, x30, x31, x32, x33, x34, x35, x36, x37, x38, x39, x40, x41, x42, x43, x44, x45, x46, rfl⟩ := act47as hag.size hag.defers
              have ag0 : x0 = .slice (some ⟨g, off, none⟩) l.length c := hag.kept 0 (by kernel_rfl)
              have ag1 : x1 = .int .i64 dy := hag.kept 1 (by kernel_rfl)
              have ag6 : x6 = .slice A1 l.length c1 := hag.kept 6 (by kernel_rfl)
              have ag7 : x7 = .int .i64 (k : Nat) := hag.kept 7 (by kernel_rfl)
              clear hag
              subst ag0 ag1 ag6 ag7
            · go_wp2_with fail
              exact ⟨rfl, _, rfl, ⟨wr.heap.size, rfl, World.ownsRow_made (size := 1) (e := 3) wr #[] 0 hJ.size (by simp [maxLen]) rfl⟩, hJ.alloc hJ.size _, .inr (.inr ((Below.refl _ _).alloc (Nat.le_refl _) _))⟩
            · go_wp2_with fail
              exact ⟨rfl, _, rfl, rfl, hJ, .inr (.inr (Below.refl _ _))⟩
            · go_wp2_with fail
              exact ⟨rfl, _, rfl, rfl, hJ, .inr (.inr (Below.refl _ _))⟩
            · have e1 : x31 = .slice (some ⟨g, off, none⟩) l.length c := hd 1 (by kernel_rfl) _ rfl
              have e2 : x32 = .int .i64 (k) := hd 2 (by kernel_rfl) _ rfl
              subst e1 e2
              go_wp2_with fail
              all_goals
                refine ⟨rfl, _, rfl, ?_, hJ, .inr (.inr (Below.refl _ _))⟩
                first | exact hs1 | (simp; exact hs1) | (simp at hs1; exact hs1)
            · obtain ⟨g1, e1, og⟩ : ∃ g, x30 = Value.slice (some ⟨g, 0, none⟩) 0 0 ∧ wr.ownsRow w2.heap.size 3 1 x30 0 ([]) := hd 0 (by kernel_rfl) _ rfl
              have hs1 : RdS w2 1 x33 (k) L1 := hd 3 (by kernel_rfl) _ rfl
              subst e1
              go_wp2_with (at_builtin; refine wpList_append_empty _ rfl (.tmp 30) (.tmp 33) _ rfl w2.heap.size 3 iI _ 1 8 Try.underlying26 hiI hzI0 hzI1 hzI2 rfl (by omega) g1 rfl og _ (k) L1 rfl (hs1.below hJ) hone1 (by simp [maxLen] <;> omega) (by omega) hJ.size ?_; intro v3 w3 own3 b3 at3)
              exact ⟨rfl, _, rfl, own3, hJ.trans (b3.mono hJ.size), .inr (.inr (b3))⟩
            · go_wp2_with fail
              exact ⟨rfl, _, rfl, rfl, hJ, .inr (.inr (Below.refl _ _))⟩
            · have e1 : x35 = .int .i64 dy := hd 5 (by kernel_rfl) _ rfl
              subst e1
              go_wp2_with fail
              exact ⟨rfl, _, rfl, rdS_new wr #[.int .i64 dy] _ 1 1 rfl (by simp [maxLen]), hJ.alloc hJ.size _, .inr (.inr ((Below.refl _ _).alloc (Nat.le_refl _) _))⟩
            · have og : wr.ownsRow w2.heap.size 3 1 x34 (k) (L1) := hd 4 (by kernel_rfl) _ rfl
              have ok : RdS wr 1 x36 1 [Value.int .i64 dy] := hd 6 (by kernel_rfl) _ rfl
              obtain ⟨Aa, ca, e0, _, _⟩ := (RdS.of_own og).form
              go_wp2_with (at_builtin; refine wpList_appendB _ rfl (.tmp 34) (.tmp 36) _ rfl w2.heap.size 3 iI _ 1 8 Try.underlying26 hiI hzI0 hzI1 hzI2 rfl (by omega) x34 (k) (L1) rfl og _ 1 _ rfl ok (by simp [Value.oneCell']) (by simp [maxLen] <;> omega) (by omega) hJ.size ?_; intro v3 w3 own3 gr3 at3)
              exact ⟨rfl, _, rfl, own3, hJ.trans (below_own og gr3 hJ.size), .inl rfl⟩
            · go_wp2_with fail
              exact ⟨rfl, _, rfl, rfl, hJ, .inr (.inr (Below.refl _ _))⟩
            · go_wp2_with fail
              exact ⟨rfl, _, rfl, rfl, hJ, .inr (.inr (Below.refl _ _))⟩
            · have e1 : x38 = .slice (some ⟨g, off, none⟩) l.length c := hd 8 (by kernel_rfl) _ rfl
              have e2 : x39 = .int .i64 (k) := hd 9 (by kernel_rfl) _ rfl
              subst e1 e2
              go_wp2_with fail
              all_goals
                refine ⟨rfl, _, rfl, ?_, hJ, .inr (.inr (Below.refl _ _))⟩
                first | exact hd2 | (rw [if_pos (show k = c by omega), show c - k = 0 by omega] at hd3; exact hd3) | (simp at hd3 ⊢; exact hd3)
            · have og : wr.ownsRow w2.heap.size 3 1 x37 (k + 1) (L1 ++ [Value.int .i64 dy]) := hd 7 (by kernel_rfl) _ rfl
              have hs2 : RdS w2 1 x40 (l.length - k) L2 := hd 10 (by kernel_rfl) _ rfl
              obtain ⟨Aa, ca, e0, _, _⟩ := (RdS.of_own og).form
              go_wp2_with (at_builtin; refine wpList_appendB _ rfl (.tmp 37) (.tmp 40) _ rfl w2.heap.size 3 iI _ 1 8 Try.underlying26 hiI hzI0 hzI1 hzI2 rfl (by omega) x37 (k + 1) (L1 ++ [Value.int .i64 dy]) rfl og _ (l.length - k) _ rfl (hs2.below hJ) hone2 (by simp [maxLen] <;> omega) (by omega) hJ.size ?_; intro v3 w3 own3 gr3 at3)
              exact ⟨rfl, _, rfl, own3, hJ.trans (below_own og gr3 hJ.size), .inr (.inl rfl)⟩
          · intro a gh wr d hag hall hJ hd
            obtain ⟨x0, x1, x2, x3, x4, x5, x6, x7, x8, x9, x10, x11, x12, x13, x14, x15, x16, x17, x18, x19, x20, x21, x22, x23, x24, x25, x26, x27, x28, x29, x30, x31, x32, x33, x34, x35, x36, x37, x38, x39, x40, x41, x42, x43, x44, x45, x46, rfl⟩ := act47as hag.size hag.defers
            have ag0 : x0 = .slice (some ⟨g, off, none⟩) l.length c := hag.kept 0 (by kernel_rfl)
            have ag1 : x1 = .int .i64 dy := hag.kept 1 (by kernel_rfl)
            have ag6 : x6 = .slice A1 l.length c1 := hag.kept 6 (by kernel_rfl)
            have ag7 : x7 = .int .i64 (k : Nat) := hag.kept 7 (by kernel_rfl)
            clear hag
            subst ag0 ag1 ag6 ag7
            have hown : wr.ownsRow w2.heap.size 3 1 x41 (k + 1 + (l.length - k)) ((L1 ++ [Value.int .i64 dy]) ++ L2) := hd 11 (by kernel_rfl) _ rfl
            clear hd
            rw [Hfl.out, show k + 1 + (l.length - k) = (putF dy l).length by rw [Hlen.out]; omega] at hown
            obtain ⟨A9, c9, e9, _, _⟩ := (RdS.of_own hown).form
            subst e9
            have hbr := hJ
            have h9 := h4.below hbr
            have own3 := own_below own2 hbr
            have hb9 := bl_trans hbb hbr
            change wpList _ _ _ [_] _ _
            go_wp2_with fail
            refine twoB (specSeasonOk_any _ (putF dy l) _ (RdS.of_own hown)) (fun w5 hq5 hb5 => ?_) (fun w5 hq5 hb5 => ?_)
            · go_wp2_with fail
              go_ret2
              exact retDays_of (addF_t hq.out hq5.out) (own_below hown hb5) hz2 (bl_trans hb9 hb5)
            · go_wp2_with fail
              go_ret2
              exact retDays_of (addF_f2 hq5.out) (own_below own3 hb5) (Nat.le_refl _) (bl_trans hb9 hb5)
        · obtain rfl : l = [] := List.eq_nil_of_length_eq_zero (by omega)
          simp only [List.length_nil] at *
          obtain rfl : k = 0 := by omega
          have hkl : 0 ≤ 0 := by omega
          have hlW := h4
          obtain ⟨L1, hL1⟩ : ∃ L1, (([] : List Int).take 0).flatMap cInt = L1 := ⟨_, rfl⟩
          obtain ⟨L2, hL2⟩ : ∃ L2, (([] : List Int).drop 0).flatMap cInt = L2 := ⟨_, rfl⟩
          have hone1 : ∀ y ∈ L1, y.oneCell' = true := by rw [← hL1]; exact oneCell_flat cInt_one _
          have hone2 : ∀ y ∈ L2, y.oneCell' = true := by rw [← hL2]; exact oneCell_flat cInt_one _
          have hs1 : RdS w2 1 (.slice A 0 c) 0 L1 := rdS_zero (by rw [← hL1]; rfl) (by simp [maxLen] <;> omega)
          have hd2 : RdS w2 1 (.slice A 0 c) 0 L2 := rdS_zero (by rw [← hL2]; rfl) (by simp [maxLen] <;> omega)
          have hfl := putF_flat dy ([] : List Int)
          rw [hat, hL1, hL2] at hfl
          have Hfl := Lib.hid hfl
          have hlen := putF_len dy ([] : List Int)
          have Hlen := Lib.hid hlen
          clear hfl hlen
          go_upto_region 7 with (fail)
          refine region_state (n := 47) 12 (by kernel_rfl) rfl (by kernel_rfl) asgBef asgNeed [11] (by kernel_rfl) asgR (fun _ w' => Below w2.heap.size w2 w') (fun _ => 0) (asgP w2 (.slice A 0 c) 0 (0) dy L1 L2) ((Below.refl _ _).drew) ?_ ?_ ?_
          · intro i k v gh gh' w1 w2 hal hp hJ hR hg
            match i, hp, hal with
            | 0, ho, hal =>
              rcases hR with rfl | rfl | hb
              · exact absurd hal (by decide)
              · exact absurd hal (by decide)
              · obtain ⟨g, h1, h2⟩ := ho; exact ⟨g, h1, own_below h2 hb⟩
            | 1, hp, _ => exact hp
            | 2, hp, _ => exact hp
            | 3, hp, _ => exact hp
            | 4, ho, hal =>
              rcases hR with rfl | rfl | hb
              · exact absurd hal (by decide)
              · exact absurd hal (by decide)
              · exact own_below ho hb
            | 5, hp, _ => exact hp
            | 6, ho, hal =>
              rcases hR with rfl | rfl | hb
              · exact absurd hal (by decide)
              · exact absurd hal (by decide)
              · exact RdS.below ho hb
            | 7, ho, hal =>
              rcases hR with rfl | rfl | hb
              · exact absurd hal (by decide)
              · exact absurd hal (by decide)
              · exact own_below ho hb
            | 8, hp, _ => exact hp
            | 9, hp, _ => exact hp
            | 10, hp, _ => exact hp
            | 11, ho, hal =>
              rcases hR with rfl | rfl | hb
              · exact absurd hal (by decide)
              · exact absurd hal (by decide)
              · exact own_below ho hb
            | _ + 12, _, _ => trivial
          · refine ⟨?_, ?_, ?_, ?_, ?_, ?_, ?_, ?_, ?_, ?_, ?_, ?_, trivial⟩
            all_goals
              intro a gh wr d hag hdi hcl hJ hd
              obtain ⟨x0, x1, x2, x3, x4, x5, x6, x7, x8, x9, x10, x11, x12, x13, x14, x15, x16, x17, x18, x19, x20, x21, x22, x23, x24, x25, x26, x27, x28, x29, x30, x31, x32, x33, x34, x35, x36, x37, x38, x39, x40, x41, x42, x43, x44, x45, x46, rfl⟩ := act47as hag.size hag.defers
              have ag0 : x0 = .slice A 0 c := hag.kept 0 (by kernel_rfl)
              have ag1 : x1 = .int .i64 dy := hag.kept 1 (by kernel_rfl)
              have ag6 : x6 = .slice A1 0 c1 := hag.kept 6 (by kernel_rfl)
              have ag7 : x7 = .int .i64 (0 : Nat) := hag.kept 7 (by kernel_rfl)
              clear hag
              subst ag0 ag1 ag6 ag7
            · go_wp2_with fail
              exact ⟨rfl, _, rfl, ⟨wr.heap.size, rfl, World.ownsRow_made (size := 1) (e := 3) wr #[] 0 hJ.size (by simp [maxLen]) rfl⟩, hJ.alloc hJ.size _, .inr (.inr ((Below.refl _ _).alloc (Nat.le_refl _) _))⟩
            · go_wp2_with fail
              exact ⟨rfl, _, rfl, rfl, hJ, .inr (.inr (Below.refl _ _))⟩
            · go_wp2_with fail
              exact ⟨rfl, _, rfl, rfl, hJ, .inr (.inr (Below.refl _ _))⟩
            · have e1 : x31 = .slice A 0 c := hd 1 (by kernel_rfl) _ rfl
              have e2 : x32 = .int .i64 (0) := hd 2 (by kernel_rfl) _ rfl
              subst e1 e2
              go_wp2_with fail
              all_goals
                refine ⟨rfl, _, rfl, ?_, hJ, .inr (.inr (Below.refl _ _))⟩
                exact hs1
            · obtain ⟨g1, e1, og⟩ : ∃ g, x30 = Value.slice (some ⟨g, 0, none⟩) 0 0 ∧ wr.ownsRow w2.heap.size 3 1 x30 0 ([]) := hd 0 (by kernel_rfl) _ rfl
              have hs1 : RdS w2 1 x33 (0) L1 := hd 3 (by kernel_rfl) _ rfl
              subst e1
              go_wp2_with (at_builtin; refine wpList_append_empty _ rfl (.tmp 30) (.tmp 33) _ rfl w2.heap.size 3 iI _ 1 8 Try.underlying26 hiI hzI0 hzI1 hzI2 rfl (by omega) g1 rfl og _ (0) L1 rfl (hs1.below hJ) hone1 (by simp [maxLen] <;> omega) (by omega) hJ.size ?_; intro v3 w3 own3 b3 at3)
              exact ⟨rfl, _, rfl, own3, hJ.trans (b3.mono hJ.size), .inr (.inr (b3))⟩
            · go_wp2_with fail
              exact ⟨rfl, _, rfl, rfl, hJ, .inr (.inr (Below.refl _ _))⟩
            · have e1 : x35 = .int .i64 dy := hd 5 (by kernel_rfl) _ rfl
              subst e1
              go_wp2_with fail
              exact ⟨rfl, _, rfl, rdS_new wr #[.int .i64 dy] _ 1 1 rfl (by simp [maxLen]), hJ.alloc hJ.size _, .inr (.inr ((Below.refl _ _).alloc (Nat.le_refl _) _))⟩
            · have og : wr.ownsRow w2.heap.size 3 1 x34 (0) (L1) := hd 4 (by kernel_rfl) _ rfl
              have ok : RdS wr 1 x36 1 [Value.int .i64 dy] := hd 6 (by kernel_rfl) _ rfl
              obtain ⟨Aa, ca, e0, _, _⟩ := (RdS.of_own og).form
              go_wp2_with (at_builtin; refine wpList_appendB _ rfl (.tmp 34) (.tmp 36) _ rfl w2.heap.size 3 iI _ 1 8 Try.underlying26 hiI hzI0 hzI1 hzI2 rfl (by omega) x34 (0) (L1) rfl og _ 1 _ rfl ok (by simp [Value.oneCell']) (by simp [maxLen] <;> omega) (by omega) hJ.size ?_; intro v3 w3 own3 gr3 at3)
              exact ⟨rfl, _, rfl, own3, hJ.trans (below_own og gr3 hJ.size), .inl rfl⟩
            · go_wp2_with fail
              exact ⟨rfl, _, rfl, rfl, hJ, .inr (.inr (Below.refl _ _))⟩
            · go_wp2_with fail
              exact ⟨rfl, _, rfl, rfl, hJ, .inr (.inr (Below.refl _ _))⟩
            · have e1 : x38 = .slice A 0 c := hd 8 (by kernel_rfl) _ rfl
              have e2 : x39 = .int .i64 (0) := hd 9 (by kernel_rfl) _ rfl
              subst e1 e2
              go_wp2_with fail
              all_goals
                refine ⟨rfl, _, rfl, ?_, hJ, .inr (.inr (Below.refl _ _))⟩
                exact hd2
            · have og : wr.ownsRow w2.heap.size 3 1 x37 (0 + 1) (L1 ++ [Value.int .i64 dy]) := hd 7 (by kernel_rfl) _ rfl
              have hs2 : RdS w2 1 x40 (0) L2 := hd 10 (by kernel_rfl) _ rfl
              obtain ⟨Aa, ca, e0, _, _⟩ := (RdS.of_own og).form
              go_wp2_with (at_builtin; refine wpList_appendB _ rfl (.tmp 37) (.tmp 40) _ rfl w2.heap.size 3 iI _ 1 8 Try.underlying26 hiI hzI0 hzI1 hzI2 rfl (by omega) x37 (0 + 1) (L1 ++ [Value.int .i64 dy]) rfl og _ (0) _ rfl (hs2.below hJ) hone2 (by simp [maxLen] <;> omega) (by omega) hJ.size ?_; intro v3 w3 own3 gr3 at3)
              exact ⟨rfl, _, rfl, own3, hJ.trans (below_own og gr3 hJ.size), .inr (.inl rfl)⟩
          · intro a gh wr d hag hall hJ hd
            obtain ⟨x0, x1, x2, x3, x4, x5, x6, x7, x8, x9, x10, x11, x12, x13, x14, x15, x16, x17, x18, x19, x20, x21, x22, x23, x24, x25, x26, x27, x28, x29, x30, x31, x32, x33, x34, x35, x36, x37, x38, x39, x40, x41, x42, x43, x44, x45, x46, rfl⟩ := act47as hag.size hag.defers
            have ag0 : x0 = .slice A 0 c := hag.kept 0 (by kernel_rfl)
            have ag1 : x1 = .int .i64 dy := hag.kept 1 (by kernel_rfl)
            have ag6 : x6 = .slice A1 0 c1 := hag.kept 6 (by kernel_rfl)
            have ag7 : x7 = .int .i64 (0 : Nat) := hag.kept 7 (by kernel_rfl)
            clear hag
            subst ag0 ag1 ag6 ag7
            have hown : wr.ownsRow w2.heap.size 3 1 x41 (0 + 1 + (0)) ((L1 ++ [Value.int .i64 dy]) ++ L2) := hd 11 (by kernel_rfl) _ rfl
            clear hd
            rw [Hfl.out, show 0 + 1 + (0) = (putF dy ([] : List Int)).length by rw [Hlen.out]; rfl] at hown
            obtain ⟨A9, c9, e9, _, _⟩ := (RdS.of_own hown).form
            subst e9
            have hbr := hJ
            have h9 := h4.below hbr
            have own3 := own_below own2 hbr
            have hb9 := bl_trans hbb hbr
            change wpList _ _ _ [_] _ _
            go_wp2_with fail
            refine twoB (specSeasonOk_any _ (putF dy ([] : List Int)) _ (RdS.of_own hown)) (fun w5 hq5 hb5 => ?_) (fun w5 hq5 hb5 => ?_)
            · go_wp2_with fail
              go_ret2
              exact retDays_of (addF_t hq.out hq5.out) (own_below hown hb5) hz2 (bl_trans hb9 hb5)
            · go_wp2_with fail
              go_ret2
              exact retDays_of (addF_f2 hq5.out) (own_below own3 hb5) (Nat.le_refl _) (bl_trans hb9 hb5)
  · have hbb := bl_trans hb1 hb2
    have own2 := own_below own1 hb2
    go_wp2_with fail
    go_ret2
    exact retDays_of (addF_f1 hq.out) own2 (Nat.le_refl _) hbb
end Go.Proofs.Ytkejgogheonakaa
