/- The drawing of an order. Written by a program (gen_ins.py). -/
import Derived.Test.YtkejgogheonakaaM10
import Derived.Test.YtkejgogheonakaaW4
import Derived.Test.YtkejgogheonakaaI1
import Derived.Deep.DeepCutAuto
namespace Go.Proofs.Ytkejgogheonakaa
open Go.RowKit
def insI (l : List Int) (p : Nat) (k : Int) : List Int := l.take p ++ [k] ++ l.drop p
def isPerm (n : Nat) (l : List Int) : Prop := l.Perm ((List.range n).map (fun j : Nat => (j : Int)))
theorem isPerm_len {n : Nat} {l : List Int} (h : isPerm n l) : l.length = n := by have := h.length_eq; simpa using this
theorem isPerm_ins {n p : Nat} {l : List Int} (h : isPerm n l) : isPerm (n + 1) (insI l p n) := by
  unfold isPerm insI at *
  rw [List.range_succ, List.map_append]
  have h1 : (l.take p ++ [(n : Int)] ++ l.drop p).Perm (l.take p ++ l.drop p ++ [(n : Int)]) := by
    rw [List.append_assoc, List.append_assoc]
    exact List.Perm.append_left _ List.perm_append_comm
  rw [List.take_append_drop] at h1
  exact h1.trans (List.Perm.append_right _ h)
theorem insI_flat (l : List Int) (p : Nat) (k : Int) : ((l.take p).flatMap cInt ++ [.int .i64 k]) ++ (l.drop p).flatMap cInt = (insI l p k).flatMap cInt := by
  unfold insI
  rw [List.flatMap_append, List.flatMap_append]; rfl
theorem own_slice1 {w : World} {B n : Nat} {e : TypeId} {v : Value} {xs : List Value} (h : w.ownsRow B e 1 v n xs) (hn : 0 < n) : ∃ g c, v = .slice (some ⟨g, 0, none⟩) n c := by
  rcases h.2 with ⟨_, h0⟩ | ⟨g, cap, cur, rfl, _⟩
  · omega
  · exact ⟨g, cap, rfl⟩
theorem act33l07 {a : Act} (h : a.tmps.size = 33) (hd : a.defers = []) : ∃ x0 x1 x2 x3 x4 x5 x6 x7 x8 x9 x10 x11 x12 x13 x14 x15 x16 x17 x18 x19 x20 x21 x22 x23 x24 x25 x26 x27 x28 x29 x30 x31 x32 : Value, a = ⟨#[x0, x1, x2, x3, x4, x5, x6, x7, x8, x9, x10, x11, x12, x13, x14, x15, x16, x17, x18, x19, x20, x21, x22, x23, x24, x25, x26, x27, x28, x29, x30, x31, x32], []⟩ := by
  obtain ⟨⟨l⟩, d⟩ := a
  subst hd
  match l, h with
  | x0 :: x1 :: x2 :: x3 :: x4 :: x5 :: x6 :: x7 :: x8 :: x9 :: x10 :: x11 :: x12 :: x13 :: x14 :: x15 :: x16 :: x17 :: x18 :: x19 :: x20 :: x21 :: x22 :: x23 :: x24 :: x25 :: x26 :: x27 :: x28 :: x29 :: x30 :: x31 :: x32 :: [], _ => exact ⟨x0, x1, x2, x3, x4, x5, x6, x7, x8, x9, x10, x11, x12, x13, x14, x15, x16, x17, x18, x19, x20, x21, x22, x23, x24, x25, x26, x27, x28, x29, x30, x31, x32, rfl⟩
def pl07 (B : Nat) (xv s1 s2 : Value) (p m : Nat) (kk : Int) (L1 L2 : List Value) (i : Nat) (v : Value) (gh : Nat → Nat) (w : World) : Prop :=
  match i with
  | 0 => ∃ g, v = .slice (some ⟨g, 0, none⟩) 0 0 ∧ w.ownsRow B 3 1 v 0 ([])
  | 1 => v = xv
  | 2 => v = .int .i64 p
  | 3 => v = s1
  | 4 => w.ownsRow B 3 1 v p (L1)
  | 5 => v = .int .i64 kk
  | 6 => RdS w 1 v 1 [.int .i64 kk]
  | 7 => w.ownsRow B 3 1 v (p + 1) (L1 ++ [.int .i64 kk])
  | 8 => v = xv
  | 9 => v = .int .i64 p
  | 10 => v = s2
  | 11 => w.ownsRow B 3 1 v (p + 1 + m) ((L1 ++ [.int .i64 kk]) ++ L2)
  | _ => True
def OrdPost (w0 w : World) (g : Nat) (A : Option Addr) (c : Nat) (bs : List Int) (e : Ending) (w' : World) : Prop :=
  ∃ (gq cq n : Nat) (l : List Int), e = .returned (.slice (some ⟨gq, 0, none⟩) n cq) ∧ w'.ownsRow w.heap.size 3 1 (.slice (some ⟨gq, 0, none⟩) n cq) n (l.flatMap cInt) ∧ isPerm n l ∧ (1 ≤ n ∧ n ≤ 6) ∧ Cur w0 w' g A c bs ∧ Chg [g] w w'
set_option maxHeartbeats 8000000 in
set_option maxRecDepth 100000 in
theorem l07Order_any (w0 w : World) (g : Nat) (A : Option Addr) (c : Nat) (bs : List Int) (hcur : Cur w0 w g A c bs) :
    Calls Try.prog 135 #[.pointer (some ⟨g, 0, none⟩)] w (OrdPost w0 w g A c bs) := by
  have hglt := hcur.lt
  have hw0 := hcur.below.size
  obtain ⟨iI, hiI, hzI0, hzI1, hzI2⟩ := info_parts infoInt
  go_enter Try.func135, Try.ntmps135
  go_wp2_with fail
  refine (l01Below_any 6 w0 _ g A c bs (hcur.keep ((Below.refl _ _).alloc (Nat.le_refl _) _)) (by omega) (by omega)).mono ?_
  rintro e w1 ⟨r9, rfl, ⟨hr0, hr1⟩, hc1, hch1⟩
  obtain ⟨n, hn⟩ : ∃ n : Nat, 1 + r9 = (n : Int) := ⟨(1 + r9).toNat, by omega⟩
  have hn6 : 1 ≤ n ∧ n ≤ 6 := by omega
  have hown0 := own_chg (World.ownsRow_made (size := 1) (e := 3) w #[] 0 (Nat.le_refl _) (by simp [maxLen]) rfl) hch1 (by simp [Value.ownBlock]; omega)
  go_wp2_with fail
  try rw [hn]
  clear hn
  go_loopw [3, 5] (fun q i wr => ∃ (k : Nat) (l : List Int) (gq cq : Nat), k ≤ n ∧ i = .int .i64 k ∧ q = .slice (some ⟨gq, 0, none⟩) k cq ∧ wr.ownsRow w.heap.size 3 1 (.slice (some ⟨gq, 0, none⟩) k cq) k (l.flatMap cInt) ∧ Hid (isPerm k l) ∧ Cur w0 wr g A c bs ∧ Chg [g] w wr) (fun _ i _ => n - (intOf i).toNat)
  case atStart => exact ⟨0, [], _, _, Nat.zero_le _, rfl, rfl, hown0, List.Perm.refl _, hc1, ((Chg.refl [g] w).alloc _).trans hch1⟩
  case round =>
    obtain ⟨k, l, gq, cq, hk, rfl, rfl, hown, hval, hc, hch⟩ := hrel
    have hzw := hch.size
    by_cases hlt : k < n
    · go_wp2_with fail
      refine (l01Below_any ((k : Int) + 1) w0 _ g A c bs hc (by omega) (by omega)).mono ?_
      rintro e W ⟨r, rfl, ⟨hr0, hr1⟩, hc2, hch2⟩
      obtain ⟨p, rfl⟩ := Int.eq_ofNat_of_zero_le hr0
      have hp : p ≤ k := by omega
      have hown2 := own_chg hown hch2 (fun b hb => by have := (hown.lt b (by simpa using hb)).1; simp; omega)
      have hch' := hch.trans hch2
      have hz2' := hch2.size
      have hpl := isPerm_len hval.out
      have hkc : k ≤ cq ∧ cq ≤ 9223372036854775807 := by obtain ⟨_, _, e, h1, h2⟩ := (RdS.of_own hown2).form; injection e with _ _ e3; subst e3; simp only [maxLen] at h2; omega
      have hs1 : RdS W 1 (.slice (some ⟨gq, 0, none⟩) p cq) p ((l.take p).flatMap cInt) := by rw [flatI_take]; exact rdS_take (RdS.of_own hown2) hp
      have hs2 : RdS W 1 (sDrop gq k cq p) (k - p) ((l.drop p).flatMap cInt) := by rw [flatI_drop]; exact rdS_sDrop (RdS.of_own hown2) hp
      have hone1 := oneCell_flat cInt_one (l.take p)
      have hone2 := oneCell_flat cInt_one (l.drop p)
      have hfl := Lib.hid (insI_flat l p k)
      have Hpl := Lib.hid hpl
      clear hown hown2 hc hch hch2 hpl
      generalize (l.take p).flatMap cInt = L1 at *
      generalize (l.drop p).flatMap cInt = L2 at *
      go_upto_region 7 with (fail)
      refine region_grown (n := 33) 12 (by kernel_rfl) rfl (by kernel_rfl) insBefore insNeed [11] (by kernel_rfl) insR (fun w' => Below W.heap.size W w') (fun _ => 0) (pl07 W.heap.size (.slice (some ⟨gq, 0, none⟩) k cq) (.slice (some ⟨gq, 0, none⟩) p cq) (sDrop gq k cq p) p ((k - p)) (k) (L1) (L2)) (Below.refl _ _).drew ?_ ?_ ?_
      · intro i k v gh gh' w1 w2 hal hp hJ hR hg
        match i, hp, hal with
        | 0, ⟨g, e, ho⟩, hal =>
          rcases hR with rfl | rfl | hb
          · exact absurd hal (by decide)
          · exact absurd hal (by decide)
          · exact ⟨g, e, own_below ho hb⟩
        | 1, hp, _ => exact hp
        | 2, hp, _ => exact hp
        | 3, hp, _ => exact hp
        | 4, ho, hal =>
          rcases hR with rfl | rfl | hb
          · exact absurd hal (by decide)
          · exact absurd hal (by decide)
          · exact own_below ho hb
        | 5, hp, _ => exact hp
        | 6, ho, hal =>
          rcases hR with rfl | rfl | hb
          · exact absurd hal (by decide)
          · exact absurd hal (by decide)
          · exact RdS.below ho hb
        | 7, ho, hal =>
          rcases hR with rfl | rfl | hb
          · exact absurd hal (by decide)
          · exact absurd hal (by decide)
          · exact own_below ho hb
        | 8, hp, _ => exact hp
        | 9, hp, _ => exact hp
        | 10, hp, _ => exact hp
        | 11, ho, hal =>
          rcases hR with rfl | rfl | hb
          · exact absurd hal (by decide)
          · exact absurd hal (by decide)
          · exact own_below ho hb
        | _ + 12, _, _ => trivial
      · refine ⟨?_, ?_, ?_, ?_, ?_, ?_, ?_, ?_, ?_, ?_, ?_, ?_, trivial⟩
        all_goals
          intro a gh wr hag hJ hd
          obtain ⟨x0, x1, x2, x3, x4, x5, x6, x7, x8, x9, x10, x11, x12, x13, x14, x15, x16, x17, x18, x19, x20, x21, x22, x23, x24, x25, x26, x27, x28, x29, x30, x31, x32, rfl⟩ := act33l07 hag.size hag.defers
          have ag0 : x0 = .pointer (some ⟨g, 0, none⟩) := hag.kept 0 (by kernel_rfl)
          have ag1 : x1 = undef := hag.kept 1 (by kernel_rfl)
          have ag2 : x2 = .slice none 0 0 := hag.kept 2 (by kernel_rfl)
          have ag3 : x3 = .slice (some ⟨gq, 0, none⟩) k cq := hag.kept 3 (by kernel_rfl)
          have ag4 : x4 = .int .i64 n := hag.kept 4 (by kernel_rfl)
          have ag5 : x5 = .int .i64 k := hag.kept 5 (by kernel_rfl)
          have ag6 : x6 = .int .i64 p := hag.kept 6 (by kernel_rfl)
          have ag7 : x7 = .slice (some ⟨w.heap.size, 0, none⟩) 0 0 := hag.kept 7 (by kernel_rfl)
          have ag8 : x8 = .pointer (some ⟨g, 0, none⟩) := hag.kept 8 (by kernel_rfl)
          have ag9 : x9 = .int .i64 r9 := hag.kept 9 (by kernel_rfl)
          have ag10 : x10 = .int .i64 n := hag.kept 10 (by kernel_rfl)
          have ag32 : x32 = undef := hag.kept 32 (by kernel_rfl)
          clear hag
          subst ag0 ag1 ag2 ag3 ag4 ag5 ag6 ag7 ag8 ag9 ag10 ag32
        · go_wp2_with fail
          exact ⟨rfl, _, rfl, ⟨wr.heap.size, rfl, World.ownsRow_made (size := 1) (e := 3) wr #[] 0 hJ.size (by simp [maxLen]) rfl⟩, hJ.alloc hJ.size _, .inr (.inr ((Below.refl _ _).alloc (Nat.le_refl _) _))⟩
        · go_wp2_with fail
          exact ⟨rfl, _, rfl, rfl, hJ, .inr (.inr (Below.refl _ _))⟩
        · go_wp2_with fail
          exact ⟨rfl, _, rfl, rfl, hJ, .inr (.inr (Below.refl _ _))⟩
        · have e1 : x21 = .slice (some ⟨gq, 0, none⟩) k cq := hd 1 (by kernel_rfl) _ rfl
          have e2 : x22 = .int .i64 p := hd 2 (by kernel_rfl) _ rfl
          subst e1 e2
          go_wp2_with fail
          exact ⟨rfl, _, rfl, rfl, hJ, .inr (.inr (Below.refl _ _))⟩
        · obtain ⟨g1, e1, og⟩ : ∃ g, x20 = .slice (some ⟨g, 0, none⟩) 0 0 ∧ wr.ownsRow W.heap.size 3 1 x20 0 ([]) := hd 0 (by kernel_rfl) _ rfl
          have e2 : x23 = .slice (some ⟨gq, 0, none⟩) p cq := hd 3 (by kernel_rfl) _ rfl
          subst e1 e2
          go_wp2_with (at_builtin; refine wpList_append_empty _ rfl (.tmp 20) (.tmp 23) _ rfl W.heap.size 3 iI _ 1 8 Try.underlying26 hiI hzI0 hzI1 hzI2 rfl (by omega) g1 rfl og _ p (L1) rfl (hs1.below hJ) hone1 (by simp [maxLen]; omega) (by omega) hJ.size ?_; intro v3 w3 own3 b3 at3)
          exact ⟨rfl, _, rfl, own3, hJ.trans (b3.mono hJ.size), .inr (.inr b3)⟩
        · go_wp2_with fail
          exact ⟨rfl, _, rfl, rfl, hJ, .inr (.inr (Below.refl _ _))⟩
        · have e1 : x25 = .int .i64 k := hd 5 (by kernel_rfl) _ rfl
          subst e1
          go_wp2_with fail
          exact ⟨rfl, _, rfl, rdS_new wr #[.int .i64 k] _ 1 1 rfl (by simp [maxLen]), hJ.alloc hJ.size _, .inr (.inr ((Below.refl _ _).alloc (Nat.le_refl _) _))⟩
        · have og : wr.ownsRow W.heap.size 3 1 x24 p (L1) := hd 4 (by kernel_rfl) _ rfl
          have ok : RdS wr 1 x26 1 [.int .i64 k] := hd 6 (by kernel_rfl) _ rfl
          obtain ⟨Aa, ca, e0, _, _⟩ := (RdS.of_own og).form
          go_wp2_with (at_builtin; refine wpList_appendB _ rfl (.tmp 24) (.tmp 26) _ rfl W.heap.size 3 iI _ 1 8 Try.underlying26 hiI hzI0 hzI1 hzI2 rfl (by omega) x24 p (L1) rfl og _ 1 _ rfl ok (by simp [Value.oneCell']) (by simp [maxLen]; omega) (by omega) hJ.size ?_; intro v3 w3 own3 gr3 at3)
          exact ⟨rfl, _, rfl, own3, hJ.trans (below_own og gr3 hJ.size), .inl rfl⟩
        · go_wp2_with fail
          exact ⟨rfl, _, rfl, rfl, hJ, .inr (.inr (Below.refl _ _))⟩
        · go_wp2_with fail
          exact ⟨rfl, _, rfl, rfl, hJ, .inr (.inr (Below.refl _ _))⟩
        · have e1 : x28 = .slice (some ⟨gq, 0, none⟩) k cq := hd 8 (by kernel_rfl) _ rfl
          have e2 : x29 = .int .i64 p := hd 9 (by kernel_rfl) _ rfl
          subst e1 e2
          go_wp2_with fail
          all_goals
            refine ⟨rfl, _, rfl, ?_, hJ, .inr (.inr (Below.refl _ _))⟩
            show _ = sDrop _ _ _ _
            unfold sDrop
            split <;> first | rfl | (exfalso; omega)
        · have og : wr.ownsRow W.heap.size 3 1 x27 (p + 1) (L1 ++ [.int .i64 k]) := hd 7 (by kernel_rfl) _ rfl
          have e2 : x30 = sDrop gq k cq p := hd 10 (by kernel_rfl) _ rfl
          subst e2
          obtain ⟨Aa, ca, e0, _, _⟩ := (RdS.of_own og).form
          go_wp2_with (at_builtin; refine wpList_appendB _ rfl (.tmp 27) (.tmp 30) _ rfl W.heap.size 3 iI _ 1 8 Try.underlying26 hiI hzI0 hzI1 hzI2 rfl (by omega) x27 (p + 1) (L1 ++ [.int .i64 k]) rfl og _ (k - p) _ rfl (hs2.below hJ) hone2 (by simp [maxLen]; omega) (by omega) hJ.size ?_; intro v3 w3 own3 gr3 at3)
          exact ⟨rfl, _, rfl, own3, hJ.trans (below_own og gr3 hJ.size), .inr (.inl rfl)⟩
      · intro a gh wr hag hJ hd
        obtain ⟨x0, x1, x2, x3, x4, x5, x6, x7, x8, x9, x10, x11, x12, x13, x14, x15, x16, x17, x18, x19, x20, x21, x22, x23, x24, x25, x26, x27, x28, x29, x30, x31, x32, rfl⟩ := act33l07 hag.size hag.defers
        have ag0 : x0 = .pointer (some ⟨g, 0, none⟩) := hag.kept 0 (by kernel_rfl)
        have ag1 : x1 = undef := hag.kept 1 (by kernel_rfl)
        have ag2 : x2 = .slice none 0 0 := hag.kept 2 (by kernel_rfl)
        have ag3 : x3 = .slice (some ⟨gq, 0, none⟩) k cq := hag.kept 3 (by kernel_rfl)
        have ag4 : x4 = .int .i64 n := hag.kept 4 (by kernel_rfl)
        have ag5 : x5 = .int .i64 k := hag.kept 5 (by kernel_rfl)
        have ag6 : x6 = .int .i64 p := hag.kept 6 (by kernel_rfl)
        have ag7 : x7 = .slice (some ⟨w.heap.size, 0, none⟩) 0 0 := hag.kept 7 (by kernel_rfl)
        have ag8 : x8 = .pointer (some ⟨g, 0, none⟩) := hag.kept 8 (by kernel_rfl)
        have ag9 : x9 = .int .i64 r9 := hag.kept 9 (by kernel_rfl)
        have ag10 : x10 = .int .i64 n := hag.kept 10 (by kernel_rfl)
        have ag32 : x32 = undef := hag.kept 32 (by kernel_rfl)
        clear hag
        subst ag0 ag1 ag2 ag3 ag4 ag5 ag6 ag7 ag8 ag9 ag10 ag32
        have hown : wr.ownsRow W.heap.size 3 1 x31 (p + 1 + (k - p)) ((L1 ++ [.int .i64 k]) ++ L2) := hd 11 (by kernel_rfl) _ rfl
        clear hd
        have hJz := hJ.size
        rw [show p + 1 + (k - p) = k + 1 by omega, hfl.out] at hown
        obtain ⟨g9, c9, e9⟩ := own_slice1 hown (by omega)
        subst e9
        have hw2 : w.heap.size ≤ W.heap.size := by omega
        have hown3 := own_mono hown hw2
        clear hown
        change wpList _ _ _ [_] _ _
        go_wp2_with fail
        go_roundw
        case rel => exact ⟨k + 1, _, _, _, by omega, by go_num, rfl, hown3, isPerm_ins hval.out, hc2.keep hJ, hch'.trans (Chg.of_below hJ _)⟩
        case measure => simp [intOf]; omega
    · obtain rfl : k = n := by omega
      go_wp2_with fail
      go_ret
      exact ⟨_, _, _, l, rfl, hown, hval.out, hn6, hc, hch⟩
end Go.Proofs.Ytkejgogheonakaa
