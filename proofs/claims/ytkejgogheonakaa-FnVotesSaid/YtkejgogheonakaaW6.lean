/- The drawing of votes. Written by a program (gen_ins.py). -/
import Derived.Test.YtkejgogheonakaaW5
import Derived.Test.YtkejgogheonakaaI7
import Derived.Deep.DeepCutAuto
namespace Go.Proofs.Ytkejgogheonakaa
open Go.RowKit
theorem own_new {w : World} {B : Nat} {cs : Array Value} {t : TypeId} {size n : Nat} (hB : B ≤ w.heap.size) (hcs : cs.size = n * size) (hm : n ≤ maxLen) : (w.alloc (.cells cs t)).ownsRow B t size (.slice (some ⟨w.heap.size, 0, none⟩) n n) n cs.toList :=
  ⟨by rw [Array.length_toList]; exact hcs, .inr ⟨w.heap.size, n, cs, rfl, hB, heap_alloc_new w _, Nat.le_refl _, hm, hcs, List.take_of_length_le (by rw [Array.length_toList, hcs]; exact Nat.le_refl _)⟩⟩
theorem rows_start {w : World} {B : Nat} {u : Value} {r : List Int} {Sk : List Nat} (hB : B ≤ w.heap.size) (hk : OwL 3 cInt 1 w Sk u r) (hfk : Fresh B w Sk) :
    ∃ S, OwRows 26 3 (w.alloc (.cells #[u] 26)) S (.slice (some ⟨w.heap.size, 0, none⟩) 1 1) [r] ∧ Fresh B (w.alloc (.cells #[u] 26)) S := by
  have hal : Below w.heap.size w (w.alloc (.cells #[u] 26)) := (Below.refl _ _).alloc (Nat.le_refl _) _
  have hSk := hk.2
  refine ⟨_, ⟨[u], rfl, own_new (Nat.zero_le _) rfl (by simp [maxLen]), fun i v l hv hl => ?_, rfl⟩, ?_⟩
  · cases i with
    | zero => simp at hv hl; subst hv hl; exact own_below hk.1 hal
    | succ i => simp at hv
  · have e : blocksOf [u] = Sk := by rw [hSk]; unfold blocksOf; simp
    rw [e]
    refine ⟨?_, fun b hb => ?_⟩
    · show (w.heap.size :: Sk).Nodup
      rw [List.nodup_cons]
      exact ⟨fun h => by have := (hfk.2 _ h).2; omega, hfk.1⟩
    · rcases List.mem_cons.1 hb with rfl | h
      · simp; omega
      · have := hfk.2 b h; simp; omega
theorem rows_snoc {w w' : World} {B : Nat} {vs : List Value} {ll : List (List Int)} {q q' u : Value} {r : List Int} {Sk : List Nat} (hl : vs.length = ll.length) (hrows : RowsOwn 3 w vs ll)
    (hf : Fresh B w (q.ownBlock.toList ++ blocksOf vs)) (hk : OwL 3 cInt 1 w Sk u r) (hfk : Fresh B w Sk) (hd : ∀ b ∈ q.ownBlock.toList ++ blocksOf vs, b ∉ Sk)
    (hown' : w'.ownsRow B 26 1 q' (vs.length + 1) (vs ++ [u])) (hg : w.grownBy w' q.ownBlock) (hat : q'.ownBlock = q.ownBlock ∨ q'.ownBlock = some w.heap.size) :
    ∃ S, OwRows 26 3 w' S q' (ll ++ [r]) ∧ Fresh B w' S := by
  have hch := Chg.of_grown hg
  obtain ⟨n1, n2, dj, dj'⟩ := nodup2 hf.1
  have hs := hg.size
  have hSk := hk.2
  subst hSk
  refine ⟨_, ⟨vs ++ [u], by simp [hl], ?_, ?_, rfl⟩, ?_⟩
  · rw [List.length_append]
    exact own_mono hown' (Nat.zero_le _)
  · intro i p r' hp hr'
    by_cases hi : i < vs.length
    · rw [List.getElem?_append_left hi] at hp
      rw [List.getElem?_append_left (by omega)] at hr'
      exact own_chg (hrows i p r' hp hr') hch (fun b hb hb' => dj' b (mem_blocks hp b hb) hb')
    · rw [List.getElem?_append_right (by omega)] at hp
      rw [List.getElem?_append_right (by omega)] at hr'
      have e1 : i - vs.length = 0 := by
        have := (List.getElem?_eq_some_iff.1 hp).1
        simp at this; omega
      rw [e1] at hp
      rw [show i - ll.length = 0 by omega] at hr'
      simp at hp hr'
      subst hp hr'
      exact own_chg hk.1 hch (fun b hb hb' => hd b (by simp [hb']) hb)
  · rw [blocks_snoc]
    have hq : ∀ b ∈ q'.ownBlock.toList, b ∈ q.ownBlock.toList ∨ b = w.heap.size := by
      intro b hb
      rcases hat with e | e
      · rw [e] at hb; exact .inl hb
      · rw [e] at hb; simp at hb; exact .inr hb
    refine ⟨List.nodup_append.2 ⟨by cases q'.ownBlock <;> simp, List.nodup_append.2 ⟨n2, hfk.1, fun b hb b' hb' e => ?_⟩, fun b hb b' hb' e => ?_⟩, fun b hb => ?_⟩
    · subst e
      exact hd b (List.mem_append_right _ hb) hb'
    · subst e
      rcases hq b hb with h | h
      · rcases List.mem_append.1 hb' with h' | h'
        · exact dj b h h'
        · exact hd b (List.mem_append_left _ h) h'
      · rcases List.mem_append.1 hb' with h' | h'
        · have := (hf.2 b (List.mem_append_right _ h')).2; omega
        · have := (hfk.2 b h').2; omega
    · rcases List.mem_append.1 hb with h | h
      · exact hown'.lt b (by simpa using h)
      · rcases List.mem_append.1 h with h' | h'
        · have := hf.2 b (List.mem_append_right _ h'); omega
        · have := hfk.2 b h'; omega
theorem act47l35 {a : Act} (h : a.tmps.size = 47) (hd : a.defers = []) : ∃ x0 x1 x2 x3 x4 x5 x6 x7 x8 x9 x10 x11 x12 x13 x14 x15 x16 x17 x18 x19 x20 x21 x22 x23 x24 x25 x26 x27 x28 x29 x30 x31 x32 x33 x34 x35 x36 x37 x38 x39 x40 x41 x42 x43 x44 x45 x46 : Value, a = ⟨#[x0, x1, x2, x3, x4, x5, x6, x7, x8, x9, x10, x11, x12, x13, x14, x15, x16, x17, x18, x19, x20, x21, x22, x23, x24, x25, x26, x27, x28, x29, x30, x31, x32, x33, x34, x35, x36, x37, x38, x39, x40, x41, x42, x43, x44, x45, x46], []⟩ := by
  obtain ⟨⟨l⟩, d⟩ := a
  subst hd
  match l, h with
  | x0 :: x1 :: x2 :: x3 :: x4 :: x5 :: x6 :: x7 :: x8 :: x9 :: x10 :: x11 :: x12 :: x13 :: x14 :: x15 :: x16 :: x17 :: x18 :: x19 :: x20 :: x21 :: x22 :: x23 :: x24 :: x25 :: x26 :: x27 :: x28 :: x29 :: x30 :: x31 :: x32 :: x33 :: x34 :: x35 :: x36 :: x37 :: x38 :: x39 :: x40 :: x41 :: x42 :: x43 :: x44 :: x45 :: x46 :: [], _ => exact ⟨x0, x1, x2, x3, x4, x5, x6, x7, x8, x9, x10, x11, x12, x13, x14, x15, x16, x17, x18, x19, x20, x21, x22, x23, x24, x25, x26, x27, x28, x29, x30, x31, x32, x33, x34, x35, x36, x37, x38, x39, x40, x41, x42, x43, x44, x45, x46, rfl⟩
def pl35 (B : Nat) (xv s1 s2 : Value) (p m : Nat) (kk : Int) (L1 L2 : List Value) (i : Nat) (v : Value) (gh : Nat → Nat) (w : World) : Prop :=
  match i with
  | 0 => ∃ g, v = .slice (some ⟨g, 0, none⟩) 0 0 ∧ w.ownsRow B 3 1 v 0 ([])
  | 1 => v = xv
  | 2 => v = .int .i64 p
  | 3 => v = s1
  | 4 => w.ownsRow B 3 1 v p (L1)
  | 5 => v = .int .i64 kk
  | 6 => RdS w 1 v 1 [.int .i64 kk]
  | 7 => w.ownsRow B 3 1 v (p + 1) (L1 ++ [.int .i64 kk])
  | 8 => v = xv
  | 9 => v = .int .i64 p
  | 10 => v = s2
  | 11 => w.ownsRow B 3 1 v (p + 1 + m) ((L1 ++ [.int .i64 kk]) ++ L2)
  | _ => True
def VotesPost (w0 w : World) (g : Nat) (A : Option Addr) (c : Nat) (bs : List Int) (e : Ending) (w' : World) : Prop :=
  ∃ (v : Value) (ll : List (List Int)) (n : Nat), e = .returned v ∧ RdRows w' v ll ∧ (1 ≤ ll.length ∧ ll.length ≤ 6) ∧ (1 ≤ n ∧ n ≤ 6) ∧ (∀ r ∈ ll, isPerm n r) ∧ Cur w0 w' g A c bs ∧ Chg [g] w w'
set_option maxHeartbeats 8000000 in
set_option maxRecDepth 100000 in
theorem l35List_any (w0 w : World) (g : Nat) (A : Option Addr) (c : Nat) (bs : List Int) (hcur : Cur w0 w g A c bs) :
    Calls Try.prog 70 #[.pointer (some ⟨g, 0, none⟩)] w (VotesPost w0 w g A c bs) := by
  have hglt := hcur.lt
  have hw0 := hcur.below.size
  obtain ⟨iI, hiI, hzI0, hzI1, hzI2⟩ := info_parts infoInt
  obtain ⟨iR, hiR, hzR0, hzR1, hzR2⟩ := info_parts infoRow
  go_enter Try.func70, Try.ntmps70
  go_wp2_with fail
  refine (l07Order_any w0 w g A c bs hcur).mono ?_
  rintro e w1 ⟨gf, cf, nf, l0, rfl, hownf, hperm, hnf, hc1, hch1⟩
  have hz1 := hch1.size
  have hl0 := isPerm_len hperm
  have hkf : OwL 3 cInt 1 w1 [gf] (.slice (some ⟨gf, 0, none⟩) nf cf) l0 := ⟨by rw [hl0]; exact own_mono hownf (Nat.zero_le _), rfl⟩
  obtain ⟨S0, hst, hst'⟩ := rows_start hz1 hkf ⟨by simp, fun b hb => by simp at hb; subst hb; exact hownf.lt _ rfl⟩
  clear hownf hkf
  go_wp2_with fail
  refine (l01Below_any 6 w0 _ g A c bs (hc1.keep ((Below.refl _ _).alloc (Nat.le_refl _) _)) (by omega) (by omega)).mono ?_
  rintro e w2 ⟨r, rfl, ⟨hr0, hr1⟩, hc2, hch2⟩
  obtain ⟨n, rfl⟩ := Int.eq_ofNat_of_zero_le hr0
  have hst2 := hst.chg hch2 (fun b hb => by have := (hst'.2 b hb).1; simp; omega)
  have hst2' := fresh_mono hst' (Nat.le_refl _) hch2.size
  have hch12 := (hch1.alloc _).trans hch2
  clear hst hst' hch1 hch2 hc1
  go_wp2_with fail
  go_loopw [4, 5] (fun q i wr => ∃ (t : Nat) (ll : List (List Int)) (S : List Nat), t ≤ n ∧ i = .int .i64 ((n - t : Nat) : Int) ∧ OwRows 26 3 wr S q ll ∧ Fresh w.heap.size wr S ∧ Hid (ll.length = t + 1) ∧ Hid (∀ r ∈ ll, isPerm nf r) ∧ Cur w0 wr g A c bs ∧ Chg [g] w wr) (fun _ i _ => (intOf i).toNat)
  case atStart => exact ⟨0, [l0], S0, Nat.zero_le _, rfl, hst2, hst2', rfl, by intro r hr; simp at hr; subst hr; exact hperm, hc2, hch12⟩
  case round =>
    obtain ⟨t, ll, S, ht, rfl, how, hfr, hll, hval, hc, hch⟩ := hrel
    have hzw := hch.size
    skip
    by_cases hlt : t < n
    · obtain ⟨m, hm⟩ : ∃ m, n - t = m := ⟨_, rfl⟩
      rw [hm]
      have Hm := Lib.hid hm
      have hm8 : 1 ≤ m ∧ m ≤ 6 := by omega
      clear hm
      obtain ⟨wo, rfl⟩ : ∃ wo : World, wo = wr := ⟨_, rfl⟩
      obtain ⟨q0, rfl⟩ : ∃ q0 : Value, q0 = u4 := ⟨_, rfl⟩
      have hbn := (Below.refl wo.heap.size wo).alloc (Nat.le_refl _) (.cells #[] 3)
      have hown0 := World.ownsRow_made (size := 1) (e := 3) wo #[] 0 (Nat.le_refl _) (by simp [maxLen]) rfl
      go_wp2_with fail
      try rw [decide_eq_true (show 0 < m by omega)]
      go_loopw [6, 7] (fun x i wr => ∃ (k : Nat) (l : List Int) (gq cq : Nat), k ≤ nf ∧ i = .int .i64 k ∧ x = .slice (some ⟨gq, 0, none⟩) k cq ∧ wr.ownsRow wo.heap.size 3 1 (.slice (some ⟨gq, 0, none⟩) k cq) k (l.flatMap cInt) ∧ Hid (isPerm k l) ∧ Cur w0 wr g A c bs ∧ Chg [g] wo wr) (fun _ i _ => nf - (intOf i).toNat)
      case atStart => exact ⟨0, [], _, _, Nat.zero_le _, rfl, rfl, hown0, List.Perm.refl _, hc.keep hbn, (Chg.refl [g] wo).alloc _⟩
      case round =>
        obtain ⟨k, l, gq, cq, hk, rfl, rfl, hown, hvk, hci, hchi⟩ := hrel
        have hzi := hchi.size
        by_cases hltk : k < nf
        · go_wp2_with fail
          refine (l01Below_any ((k : Int) + 1) w0 _ g A c bs hci (by omega) (by omega)).mono ?_
          rintro e W ⟨r, rfl, ⟨hr0, hr1⟩, hc3, hch3⟩
          obtain ⟨p, rfl⟩ := Int.eq_ofNat_of_zero_le hr0
          have hp : p ≤ k := by omega
          have hown2 := own_chg hown hch3 (fun b hb => by have := (hown.lt b (by simpa using hb)).1; simp; omega)
          have hch' := hchi.trans hch3
          have hz2' := hch3.size
          have hpl := isPerm_len hvk.out
          have hkc : k ≤ cq ∧ cq ≤ 9223372036854775807 := by obtain ⟨_, _, e, h1, h2⟩ := (RdS.of_own hown2).form; injection e with _ _ e3; subst e3; simp only [maxLen] at h2; omega
          have hs1 : RdS W 1 (.slice (some ⟨gq, 0, none⟩) p cq) p ((l.take p).flatMap cInt) := by rw [flatI_take]; exact rdS_take (RdS.of_own hown2) hp
          have hs2 : RdS W 1 (sDrop gq k cq p) (k - p) ((l.drop p).flatMap cInt) := by rw [flatI_drop]; exact rdS_sDrop (RdS.of_own hown2) hp
          have hone1 := oneCell_flat cInt_one (l.take p)
          have hone2 := oneCell_flat cInt_one (l.drop p)
          have hfl := Lib.hid (insI_flat l p k)
          have Hpl := Lib.hid hpl
          clear hown hown2 hci hchi hch3 hpl
          generalize (l.take p).flatMap cInt = L1 at *
          generalize (l.drop p).flatMap cInt = L2 at *
          go_upto_region 11 with (fail)
          refine region_grown (n := 47) 12 (by kernel_rfl) rfl (by kernel_rfl) insBefore insNeed [11] (by kernel_rfl) insR (fun w' => Below W.heap.size W w') (fun _ => 0) (pl35 W.heap.size (.slice (some ⟨gq, 0, none⟩) k cq) (.slice (some ⟨gq, 0, none⟩) p cq) (sDrop gq k cq p) p ((k - p)) (k) (L1) (L2)) (Below.refl _ _).drew ?_ ?_ ?_
          · intro i k v gh gh' w1 w2 hal hp hJ hR hg
            match i, hp, hal with
            | 0, ⟨g, e, ho⟩, hal =>
              rcases hR with rfl | rfl | hb
              · exact absurd hal (by decide)
              · exact absurd hal (by decide)
              · exact ⟨g, e, own_below ho hb⟩
            | 1, hp, _ => exact hp
            | 2, hp, _ => exact hp
            | 3, hp, _ => exact hp
            | 4, ho, hal =>
              rcases hR with rfl | rfl | hb
              · exact absurd hal (by decide)
              · exact absurd hal (by decide)
              · exact own_below ho hb
            | 5, hp, _ => exact hp
            | 6, ho, hal =>
              rcases hR with rfl | rfl | hb
              · exact absurd hal (by decide)
              · exact absurd hal (by decide)
              · exact RdS.below ho hb
            | 7, ho, hal =>
              rcases hR with rfl | rfl | hb
              · exact absurd hal (by decide)
              · exact absurd hal (by decide)
              · exact own_below ho hb
            | 8, hp, _ => exact hp
            | 9, hp, _ => exact hp
            | 10, hp, _ => exact hp
            | 11, ho, hal =>
              rcases hR with rfl | rfl | hb
              · exact absurd hal (by decide)
              · exact absurd hal (by decide)
              · exact own_below ho hb
            | _ + 12, _, _ => trivial
          · refine ⟨?_, ?_, ?_, ?_, ?_, ?_, ?_, ?_, ?_, ?_, ?_, ?_, trivial⟩
            all_goals
              intro a gh wr hag hJ hd
              obtain ⟨x0, x1, x2, x3, x4, x5, x6, x7, x8, x9, x10, x11, x12, x13, x14, x15, x16, x17, x18, x19, x20, x21, x22, x23, x24, x25, x26, x27, x28, x29, x30, x31, x32, x33, x34, x35, x36, x37, x38, x39, x40, x41, x42, x43, x44, x45, x46, rfl⟩ := act47l35 hag.size hag.defers
              have ag0 : x0 = .pointer (some ⟨g, 0, none⟩) := hag.kept 0 (by kernel_rfl)
              have ag1 : x1 = undef := hag.kept 1 (by kernel_rfl)
              have ag2 : x2 = .slice none 0 0 := hag.kept 2 (by kernel_rfl)
              have ag3 : x3 = .slice (some ⟨gf, 0, none⟩) nf cf := hag.kept 3 (by kernel_rfl)
              have ag4 : x4 = q0 := hag.kept 4 (by kernel_rfl)
              have ag5 : x5 = .int .i64 m := hag.kept 5 (by kernel_rfl)
              have ag6 : x6 = .slice (some ⟨gq, 0, none⟩) k cq := hag.kept 6 (by kernel_rfl)
              have ag7 : x7 = .int .i64 k := hag.kept 7 (by kernel_rfl)
              have ag8 : x8 = .int .i64 p := hag.kept 8 (by kernel_rfl)
              have ag9 : x9 = .pointer (some ⟨g, 0, none⟩) := hag.kept 9 (by kernel_rfl)
              have ag10 : x10 = .slice (some ⟨gf, 0, none⟩) nf cf := hag.kept 10 (by kernel_rfl)
              have ag11 : x11 = .slice (some ⟨gf, 0, none⟩) nf cf := hag.kept 11 (by kernel_rfl)
              have ag12 : x12 = .slice (some ⟨w1.heap.size, 0, none⟩) 1 1 := hag.kept 12 (by kernel_rfl)
              have ag13 : x13 = .pointer (some ⟨g, 0, none⟩) := hag.kept 13 (by kernel_rfl)
              have ag14 : x14 = .int .i64 n := hag.kept 14 (by kernel_rfl)
              have ag15 : x15 = .int .i64 m := hag.kept 15 (by kernel_rfl)
              have ag16 : x16 = .bool true := hag.kept 16 (by kernel_rfl)
              have ag17 : x17 = u17 := hag.kept 17 (by kernel_rfl)
              have ag18 : x18 = u18 := hag.kept 18 (by kernel_rfl)
              have ag19 : x19 = .slice (some ⟨wo.heap.size, 0, none⟩) 0 0 := hag.kept 19 (by kernel_rfl)
              have ag42 : x42 = u42 := hag.kept 42 (by kernel_rfl)
              have ag43 : x43 = u43 := hag.kept 43 (by kernel_rfl)
              have ag44 : x44 = u44 := hag.kept 44 (by kernel_rfl)
              have ag45 : x45 = u45 := hag.kept 45 (by kernel_rfl)
              have ag46 : x46 = undef := hag.kept 46 (by kernel_rfl)
              clear hag
              subst ag0 ag1 ag2 ag3 ag4 ag5 ag6 ag7 ag8 ag9 ag10 ag11 ag12 ag13 ag14 ag15 ag16 ag17 ag18 ag19 ag42 ag43 ag44 ag45 ag46
            · go_wp2_with fail
              exact ⟨rfl, _, rfl, ⟨wr.heap.size, rfl, World.ownsRow_made (size := 1) (e := 3) wr #[] 0 hJ.size (by simp [maxLen]) rfl⟩, hJ.alloc hJ.size _, .inr (.inr ((Below.refl _ _).alloc (Nat.le_refl _) _))⟩
            · go_wp2_with fail
              exact ⟨rfl, _, rfl, rfl, hJ, .inr (.inr (Below.refl _ _))⟩
            · go_wp2_with fail
              exact ⟨rfl, _, rfl, rfl, hJ, .inr (.inr (Below.refl _ _))⟩
            · have e1 : x31 = .slice (some ⟨gq, 0, none⟩) k cq := hd 1 (by kernel_rfl) _ rfl
              have e2 : x32 = .int .i64 p := hd 2 (by kernel_rfl) _ rfl
              subst e1 e2
              go_wp2_with fail
              exact ⟨rfl, _, rfl, rfl, hJ, .inr (.inr (Below.refl _ _))⟩
            · obtain ⟨g1, e1, og⟩ : ∃ g, x30 = .slice (some ⟨g, 0, none⟩) 0 0 ∧ wr.ownsRow W.heap.size 3 1 x30 0 ([]) := hd 0 (by kernel_rfl) _ rfl
              have e2 : x33 = .slice (some ⟨gq, 0, none⟩) p cq := hd 3 (by kernel_rfl) _ rfl
              subst e1 e2
              go_wp2_with (at_builtin; refine wpList_append_empty _ rfl (.tmp 30) (.tmp 33) _ rfl W.heap.size 3 iI _ 1 8 Try.underlying26 hiI hzI0 hzI1 hzI2 rfl (by omega) g1 rfl og _ p (L1) rfl (hs1.below hJ) hone1 (by simp [maxLen]; omega) (by omega) hJ.size ?_; intro v3 w3 own3 b3 at3)
              exact ⟨rfl, _, rfl, own3, hJ.trans (b3.mono hJ.size), .inr (.inr b3)⟩
            · go_wp2_with fail
              exact ⟨rfl, _, rfl, rfl, hJ, .inr (.inr (Below.refl _ _))⟩
            · have e1 : x35 = .int .i64 k := hd 5 (by kernel_rfl) _ rfl
              subst e1
              go_wp2_with fail
              exact ⟨rfl, _, rfl, rdS_new wr #[.int .i64 k] _ 1 1 rfl (by simp [maxLen]), hJ.alloc hJ.size _, .inr (.inr ((Below.refl _ _).alloc (Nat.le_refl _) _))⟩
            · have og : wr.ownsRow W.heap.size 3 1 x34 p (L1) := hd 4 (by kernel_rfl) _ rfl
              have ok : RdS wr 1 x36 1 [.int .i64 k] := hd 6 (by kernel_rfl) _ rfl
              obtain ⟨Aa, ca, e0, _, _⟩ := (RdS.of_own og).form
              go_wp2_with (at_builtin; refine wpList_appendB _ rfl (.tmp 34) (.tmp 36) _ rfl W.heap.size 3 iI _ 1 8 Try.underlying26 hiI hzI0 hzI1 hzI2 rfl (by omega) x34 p (L1) rfl og _ 1 _ rfl ok (by simp [Value.oneCell']) (by simp [maxLen]; omega) (by omega) hJ.size ?_; intro v3 w3 own3 gr3 at3)
              exact ⟨rfl, _, rfl, own3, hJ.trans (below_own og gr3 hJ.size), .inl rfl⟩
            · go_wp2_with fail
              exact ⟨rfl, _, rfl, rfl, hJ, .inr (.inr (Below.refl _ _))⟩
            · go_wp2_with fail
              exact ⟨rfl, _, rfl, rfl, hJ, .inr (.inr (Below.refl _ _))⟩
            · have e1 : x38 = .slice (some ⟨gq, 0, none⟩) k cq := hd 8 (by kernel_rfl) _ rfl
              have e2 : x39 = .int .i64 p := hd 9 (by kernel_rfl) _ rfl
              subst e1 e2
              go_wp2_with fail
              all_goals
                refine ⟨rfl, _, rfl, ?_, hJ, .inr (.inr (Below.refl _ _))⟩
                show _ = sDrop _ _ _ _
                unfold sDrop
                split <;> first | rfl | (exfalso; omega)
            · have og : wr.ownsRow W.heap.size 3 1 x37 (p + 1) (L1 ++ [.int .i64 k]) := hd 7 (by kernel_rfl) _ rfl
              have e2 : x40 = sDrop gq k cq p := hd 10 (by kernel_rfl) _ rfl
              subst e2
              obtain ⟨Aa, ca, e0, _, _⟩ := (RdS.of_own og).form
              go_wp2_with (at_builtin; refine wpList_appendB _ rfl (.tmp 37) (.tmp 40) _ rfl W.heap.size 3 iI _ 1 8 Try.underlying26 hiI hzI0 hzI1 hzI2 rfl (by omega) x37 (p + 1) (L1 ++ [.int .i64 k]) rfl og _ (k - p) _ rfl (hs2.below hJ) hone2 (by simp [maxLen]; omega) (by omega) hJ.size ?_; intro v3 w3 own3 gr3 at3)
              exact ⟨rfl, _, rfl, own3, hJ.trans (below_own og gr3 hJ.size), .inr (.inl rfl)⟩
          · intro a gh wr hag hJ hd
            obtain ⟨x0, x1, x2, x3, x4, x5, x6, x7, x8, x9, x10, x11, x12, x13, x14, x15, x16, x17, x18, x19, x20, x21, x22, x23, x24, x25, x26, x27, x28, x29, x30, x31, x32, x33, x34, x35, x36, x37, x38, x39, x40, x41, x42, x43, x44, x45, x46, rfl⟩ := act47l35 hag.size hag.defers
            have ag0 : x0 = .pointer (some ⟨g, 0, none⟩) := hag.kept 0 (by kernel_rfl)
            have ag1 : x1 = undef := hag.kept 1 (by kernel_rfl)
            have ag2 : x2 = .slice none 0 0 := hag.kept 2 (by kernel_rfl)
            have ag3 : x3 = .slice (some ⟨gf, 0, none⟩) nf cf := hag.kept 3 (by kernel_rfl)
            have ag4 : x4 = q0 := hag.kept 4 (by kernel_rfl)
            have ag5 : x5 = .int .i64 m := hag.kept 5 (by kernel_rfl)
            have ag6 : x6 = .slice (some ⟨gq, 0, none⟩) k cq := hag.kept 6 (by kernel_rfl)
            have ag7 : x7 = .int .i64 k := hag.kept 7 (by kernel_rfl)
            have ag8 : x8 = .int .i64 p := hag.kept 8 (by kernel_rfl)
            have ag9 : x9 = .pointer (some ⟨g, 0, none⟩) := hag.kept 9 (by kernel_rfl)
            have ag10 : x10 = .slice (some ⟨gf, 0, none⟩) nf cf := hag.kept 10 (by kernel_rfl)
            have ag11 : x11 = .slice (some ⟨gf, 0, none⟩) nf cf := hag.kept 11 (by kernel_rfl)
            have ag12 : x12 = .slice (some ⟨w1.heap.size, 0, none⟩) 1 1 := hag.kept 12 (by kernel_rfl)
            have ag13 : x13 = .pointer (some ⟨g, 0, none⟩) := hag.kept 13 (by kernel_rfl)
            have ag14 : x14 = .int .i64 n := hag.kept 14 (by kernel_rfl)
            have ag15 : x15 = .int .i64 m := hag.kept 15 (by kernel_rfl)
            have ag16 : x16 = .bool true := hag.kept 16 (by kernel_rfl)
            have ag17 : x17 = u17 := hag.kept 17 (by kernel_rfl)
            have ag18 : x18 = u18 := hag.kept 18 (by kernel_rfl)
            have ag19 : x19 = .slice (some ⟨wo.heap.size, 0, none⟩) 0 0 := hag.kept 19 (by kernel_rfl)
            have ag42 : x42 = u42 := hag.kept 42 (by kernel_rfl)
            have ag43 : x43 = u43 := hag.kept 43 (by kernel_rfl)
            have ag44 : x44 = u44 := hag.kept 44 (by kernel_rfl)
            have ag45 : x45 = u45 := hag.kept 45 (by kernel_rfl)
            have ag46 : x46 = undef := hag.kept 46 (by kernel_rfl)
            clear hag
            subst ag0 ag1 ag2 ag3 ag4 ag5 ag6 ag7 ag8 ag9 ag10 ag11 ag12 ag13 ag14 ag15 ag16 ag17 ag18 ag19 ag42 ag43 ag44 ag45 ag46
            have hown : wr.ownsRow W.heap.size 3 1 x41 (p + 1 + (k - p)) ((L1 ++ [.int .i64 k]) ++ L2) := hd 11 (by kernel_rfl) _ rfl
            clear hd
            have hJz := hJ.size
            rw [show p + 1 + (k - p) = k + 1 by omega, hfl.out] at hown
            obtain ⟨g9, c9, e9⟩ := own_slice1 hown (by omega)
            subst e9
            have hw2 : wo.heap.size ≤ W.heap.size := by omega
            have hown3 := own_mono hown hw2
            clear hown
            change wpList _ _ _ [_] _ _
            go_wp2_with fail
            go_roundw
            case rel => exact ⟨k + 1, _, _, _, by omega, by go_num, rfl, hown3, isPerm_ins hvk.out, hc3.keep hJ, hch'.trans (Chg.of_below hJ _)⟩
            case measure => simp [intOf]; omega
        · obtain rfl : k = nf := by omega
          obtain ⟨vs, hvl, hownq, hrows, rfl⟩ := how.chg hchi (fun b hb => by have := (hfr.2 b hb).1; simp; omega)
          have hfr2 := fresh_mono (w' := wr) hfr (Nat.le_refl _) hzi
          have hlk := isPerm_len hvk.out
          have hok : OwL 3 cInt 1 wr [gq] (.slice (some ⟨gq, 0, none⟩) k cq) l := ⟨by rw [hlk]; exact own_mono hown (Nat.zero_le _), rfl⟩
          have hgq := hown.lt gq rfl
          have hfk : Fresh w.heap.size wr [gq] := ⟨by simp, fun b hb => by simp at hb; subst hb; omega⟩
          have hdq : ∀ b ∈ q0.ownBlock.toList ++ blocksOf vs, b ∉ [gq] := fun b hb hb' => by simp at hb'; subst hb'; have := (hfr.2 b hb).2; omega
          have hllv := hll.out
          have hvs7 : vs.length ≤ 7 := by omega
          have hownq2 : wr.ownsRow w.heap.size 26 1 q0 vs.length vs := own_up hownq (fun b hb => hfr2.2 b (List.mem_append_left _ hb))
          have HA := Lib.hid hownq2
          have HB := Lib.hid hrows
          have HC := Lib.hid hvl
          have HD := Lib.hid hok
          have HE := Lib.hid hfk
          have HF := Lib.hid hdq
          have HG := Lib.hid hfr2
          have HL := Lib.hid hllv
          have hch9 := hch.trans hchi
          have hz9 := hch9.size
          clear hownq hownq2 hrows hvl hok hfk hdq hfr2 hllv hll hlk how hfr hown
          obtain ⟨Aq, cq0, e0, _, _⟩ := (RdS.of_own HA.out).form
          subst e0
          have hal : Below wr.heap.size wr (wr.alloc (.cells #[.slice (some ⟨gq, 0, none⟩) k cq] 26)) := (Below.refl _ _).alloc (Nat.le_refl _) _
          go_wp2_with (at_builtin; refine wpList_appendB _ rfl (.tmp 42) (.tmp 44) _ rfl w.heap.size 26 iR _ 1 24 Try.underlying24 hiR hzR0 hzR1 hzR2 rfl (by omega) _ vs.length vs rfl (HA.out.alloc _) _ 1 [.slice (some ⟨gq, 0, none⟩) k cq] rfl (rdS_new wr #[.slice (some ⟨gq, 0, none⟩) k cq] _ 1 1 rfl (by simp [maxLen])) (by simp [Value.oneCell']) (by simp [maxLen]; omega) (by omega) (by simp; omega) ?_; intro v3 w3 own3 gr3 at3)
          have hsn := rows_snoc (B := w.heap.size) HC.out (HB.out.below hal) (fresh_mono HG.out (Nat.le_refl _) hal.size) (HD.out.below hal) (fresh_mono HE.out (Nat.le_refl _) hal.size) HF.out own3 gr3 at3
          obtain ⟨S3, hsn1, hsn2⟩ := hsn
          have hch3 := chg_of_own (hch9.alloc (.cells #[.slice (some ⟨gq, 0, none⟩) k cq] 26)) (HA.out.alloc _) gr3
          have hc3 := cur_own (hci.keep hal) (HA.out.alloc _) gr3 hglt hw0
          have Hsn := Lib.hid hsn1
          have Hsf := Lib.hid hsn2
          clear hsn1 hsn2 own3 gr3 at3
          go_wp2_with fail
          go_roundw
          case rel =>
            refine ⟨t + 1, ll ++ [l], S3, by omega, int_eq (by have := Hm.out; omega), Hsn.out, Hsf.out, ?_, ?_, hc3, hch3⟩
            · show _ = _
              rw [List.length_append, HL.out]; rfl
            · intro r hr
              rcases List.mem_append.1 hr with hr | hr
              · exact hval.out r hr
              · simp at hr; subst hr; exact hvk.out
          case measure => simp [intOf]; omega
    · have hm : n - t = 0 := by omega
      rw [hm]
      have Hm := Lib.hid hm
      clear hm
      go_wp2_with fail
      go_ret
      exact ⟨_, ll, nf, rfl, how.rd, by have := hll.out; omega, hnf, hval.out, hc, hch⟩
def DrawnVotes (w : World) (e : Ending) (w' : World) : Prop :=
  ∃ (v : Value) (ll : List (List Int)) (n : Nat), e = .returned v ∧ RdRows w' v ll ∧ (1 ≤ ll.length ∧ ll.length ≤ 6) ∧ (1 ≤ n ∧ n ≤ 6) ∧ (∀ r ∈ ll, isPerm n r) ∧ Below w.heap.size w w'
theorem drawVotes_any (A : Option Addr) (c : Nat) (bs : List Int) (w : World) (h : RdL cU8 1 w (.slice A bs.length c) bs) (hby : ∀ x ∈ bs, 0 ≤ x ∧ x ≤ 255) (hlen : bs.length ≤ 1048576) :
    Calls Try.prog 14 #[.slice A bs.length c] w (DrawnVotes w) := by
  go_enter Try.func14, Try.ntmps14
  go_wp2_with fail
  refine (l01New_any A c bs w h hby hlen).mono ?_
  rintro e w1 ⟨g, rfl, hc⟩
  go_wp2_with fail
  refine (l35List_any w w1 g A c bs hc).mono ?_
  rintro e w2 ⟨v, ll, n, rfl, hrd, hl, hn, hval, hc2, hch⟩
  go_wp2_with fail
  go_ret
  exact ⟨v, ll, n, rfl, hrd, hl, hn, hval, hc2.below⟩
end Go.Proofs.Ytkejgogheonakaa
