/- Contracts: TeachPuppet of the reference. Written by a program (gen_t5.py). -/
import Derived.Test.YtkejgogheonakaaT3
import Derived.Test.YtkejgogheonakaaT4
namespace Go.Proofs.Ytkejgogheonakaa
open Go.RowKit
theorem pls_setF {B n : Nat} {vs : List (Value × Int)} {ll : List RPl} {g c k : Nat} (hn : n = vs.length) (hl : vs.length = ll.length) (hkl : k < ll.length) : ∀ (w : World) (u : Value) (r : List Int) (Sk : List Nat),
    w.ownsRow 0 151 2 (.slice (some ⟨g, 0, none⟩) n c) n (vs.flatMap cPl) → PlsOwn w vs ll → Fresh B w (g :: plBlocks vs) → OwL 3 cInt 1 w Sk u r → Fresh B w Sk → (∀ b ∈ g :: plBlocks vs, b ∉ Sk) →
    OwPls (w.setCell ⟨g, k * 2, none⟩ u) (g :: plBlocks (vs.set k (u, (ll[k]).2))) (.slice (some ⟨g, 0, none⟩) n c) (ll.set k (r, (ll[k]).2)) ∧ Fresh B (w.setCell ⟨g, k * 2, none⟩ u) (g :: plBlocks (vs.set k (u, (ll[k]).2))) :=
  fun _ _ _ _ a1 a2 a3 a4 a5 a6 => pls_set' hn hl a1 a2 a3 a4 a5 a6 hkl
set_option maxHeartbeats 1000000 in
theorem l13Knows_any (u : Value) (r : List Int) (fr x : Int) (w : World) (h : RdL cInt 1 w u r) :
    Calls Try.prog 145 #[.agg #[u, .int .i64 fr], .int .i64 x] w fun e w' => e = .returned (.bool (knowsB (r, fr) x)) ∧ Below w.heap.size w w' := by
  obtain ⟨A, c, rfl, h1, h2⟩ := h.form
  go_enter Try.func145, Try.ntmps145
  go_upto_region 1 with (fail)
  have hbW : Below w.heap.size w (w.alloc (.cells #[.slice A r.length c, .int .i64 fr] 151)) := by (repeat' (first | (with_reducible exact Below.refl _ _) | (with_reducible assumption) | (with_reducible refine Below.setCell ?_ (by first | omega | (simp; omega) | (simp; done)) _) | (with_reducible refine Below.alloc ?_ (by first | omega | (simp; omega) | (simp; done)) _) | (with_reducible refine Below.drew ?_) | (with_reducible refine below_drewN ?_ _)))
  have Lb : Loc (w.alloc (.cells #[.slice A r.length c, .int .i64 fr] 151)) w.heap.size [.slice A r.length c, .int .i64 fr] := Loc.new w #[.slice A r.length c, .int .i64 fr] 151
  generalize w.alloc (.cells #[.slice A r.length c, .int .i64 fr] 151) = W at *
  have hW : RdL cInt 1 W (.slice A r.length c) r := h.below hbW
  have b0 := (Lb 0 _ rfl).1
  go_wp2_with fail
  go_loop [5] (fun i => ∃ k : Nat, k ≤ r.length ∧ i = .int .i64 k ∧ Hid ((r.take k).any (fun y => decide (y = x)) = false)) (fun i => r.length - (intOf i).toNat)
  case atStart => exact ⟨0, Nat.zero_le _, rfl, by rfl⟩
  case round =>
    obtain ⟨k, hk, rfl, hall⟩ := hrel
    by_cases hlt : k < r.length
    · obtain ⟨g, off, rfl, hg, hc⟩ := hW.cell cInt_len (by omega) hlt
      have k0 := hc 0 _ rfl
      simp only [Nat.add_zero, Nat.mul_one] at k0
      clear hc
      by_cases he : r[k] = x
      · have he' : (r[k] == x) = true := by rw [beq_iff_eq]; exact he
        have He := Lib.hid he
        clear he
        go_wp2_with fail
        go_ret
        exact ⟨ret_bool (any_true_at hlt (decide_eq_true He.out)).symm, hbW⟩
      · have he' : (r[k] == x) = false := by rw [beq_eq_false_iff_ne]; exact he
        have He := Lib.hid he
        clear he
        go_wp2_with fail
        go_round
        case rel => exact ⟨k + 1, by omega, by go_num, any_take_succ hlt hall.out (decide_eq_false He.out)⟩
        case measure => simp [intOf]; omega
    · go_wp2_with fail
      go_ret
      exact ⟨ret_bool (any_take_end hlt hall.out).symm, hbW⟩
set_option maxRecDepth 100000 in
theorem act74tp {a : Act} (h : a.tmps.size = 74) (hd : a.defers = []) : ∃ x0 x1 x2 x3 x4 x5 x6 x7 x8 x9 x10 x11 x12 x13 x14 x15 x16 x17 x18 x19 x20 x21 x22 x23 x24 x25 x26 x27 x28 x29 x30 x31 x32 x33 x34 x35 x36 x37 x38 x39 x40 x41 x42 x43 x44 x45 x46 x47 x48 x49 x50 x51 x52 x53 x54 x55 x56 x57 x58 x59 x60 x61 x62 x63 x64 x65 x66 x67 x68 x69 x70 x71 x72 x73 : Value, a = ⟨#[x0, x1, x2, x3, x4, x5, x6, x7, x8, x9, x10, x11, x12, x13, x14, x15, x16, x17, x18, x19, x20, x21, x22, x23, x24, x25, x26, x27, x28, x29, x30, x31, x32, x33, x34, x35, x36, x37, x38, x39, x40, x41, x42, x43, x44, x45, x46, x47, x48, x49, x50, x51, x52, x53, x54, x55, x56, x57, x58, x59, x60, x61, x62, x63, x64, x65, x66, x67, x68, x69, x70, x71, x72, x73], []⟩ := by
  obtain ⟨⟨l⟩, d⟩ := a
  subst hd
  match l, h with
  | x0 :: x1 :: x2 :: x3 :: x4 :: x5 :: x6 :: x7 :: x8 :: x9 :: x10 :: x11 :: x12 :: x13 :: x14 :: x15 :: x16 :: x17 :: x18 :: x19 :: x20 :: x21 :: x22 :: x23 :: x24 :: x25 :: x26 :: x27 :: x28 :: x29 :: x30 :: x31 :: x32 :: x33 :: x34 :: x35 :: x36 :: x37 :: x38 :: x39 :: x40 :: x41 :: x42 :: x43 :: x44 :: x45 :: x46 :: x47 :: x48 :: x49 :: x50 :: x51 :: x52 :: x53 :: x54 :: x55 :: x56 :: x57 :: x58 :: x59 :: x60 :: x61 :: x62 :: x63 :: x64 :: x65 :: x66 :: x67 :: x68 :: x69 :: x70 :: x71 :: x72 :: x73 :: [], _ => exact ⟨x0, x1, x2, x3, x4, x5, x6, x7, x8, x9, x10, x11, x12, x13, x14, x15, x16, x17, x18, x19, x20, x21, x22, x23, x24, x25, x26, x27, x28, x29, x30, x31, x32, x33, x34, x35, x36, x37, x38, x39, x40, x41, x42, x43, x44, x45, x46, x47, x48, x49, x50, x51, x52, x53, x54, x55, x56, x57, x58, x59, x60, x61, x62, x63, x64, x65, x66, x67, x68, x69, x70, x71, x72, x73, rfl⟩
def tpgP (W : World) (xv : Value) (p m : Nat) (kk : Int) (L1 L2 : List Value) (ov : Value) (pk : Nat) (pa : Value) (i : Nat) (v : Value) (_ : Nat → Nat) (w : World) : Prop :=
  match i with
  | 0 => v = ov
  | 1 => v = .int .i64 pk
  | 2 => ∃ g, v = .slice (some ⟨g, 0, none⟩) 0 0 ∧ w.ownsRow W.heap.size 3 1 v 0 ([])
  | 3 => v = xv
  | 4 => v = .int .i64 p
  | 5 => RdS W 1 v p L1
  | 6 => w.ownsRow W.heap.size 3 1 v p (L1)
  | 7 => v = .int .i64 kk
  | 8 => RdS w 1 v 1 [Value.int .i64 kk]
  | 9 => w.ownsRow W.heap.size 3 1 v (p + 1) (L1 ++ [Value.int .i64 kk])
  | 10 => v = xv
  | 11 => v = .int .i64 p
  | 12 => RdS W 1 v m L2
  | 13 => w.ownsRow W.heap.size 3 1 v (p + 1 + m) ((L1 ++ [Value.int .i64 kk]) ++ L2)
  | 14 => v = pa
  | 15 => v = pa
  | _ => True
def tpgNeed (k : Nat) : List Nat := if k = 5 then [3, 4] else if k = 6 then [2, 5] else if k = 8 then [7] else if k = 9 then [6, 8] else if k = 12 then [10, 11] else if k = 13 then [9, 12] else if k = 14 then [0, 1] else if k = 15 then [14] else []
def tpgBef (k : Nat) : List Nat := if k = 5 then [3, 4] else if k = 6 then [2, 5, 3, 4] else if k = 8 then [7] else if k = 9 then [6, 2, 5, 3, 4, 8, 7] else if k = 12 then [10, 11] else if k = 13 then [9, 6, 2, 5, 3, 4, 8, 7, 12, 10, 11] else if k = 14 then [0, 1] else if k = 15 then [14, 0, 1] else []
def tpgR (k : Nat) (_ : Nat → Nat) (w w' : World) : Prop := k = 9 ∨ k = 13 ∨  Below w.heap.size w w'
set_option maxHeartbeats 8000000 in
set_option maxRecDepth 100000 in
theorem specTeachPuppet_any (v : Value) (pl : List RPl) (kx px : Int) (w : World) (h : RdPls w v pl) (hl : plsTot pl ≤ 1048576) :
    Calls Try.prog 86 #[v, .int .i64 kx, .int .i64 px] w (RetPls (teachF pl kx px) w) := by
  have h0 := h
  obtain ⟨A, c, rfl, h1, h2⟩ := h.form
  obtain ⟨iI, hiI, hzI0, hzI1, hzI2⟩ := info_parts infoInt
  have hpl : pl.length ≤ 1048576 := by unfold plsTot at hl; omega
  go_enter Try.func86, Try.ntmps86
  go_wp2_with fail
  refine (l17Copy_any _ pl _ h0 hl).mono ?_
  rintro e w1 ⟨v1, S, rfl, ow, f1, hb1⟩
  have h3 := h0.below hb1
  obtain ⟨A1, c1, rfl, hlc1, _⟩ := ow.rd.form
  have Ow := Lib.hid ow
  clear ow h
  go_wp2_with fail
  refine twoB (specPlayersOk_any _ pl _ h3) (fun w2 hq hb2 => ?_) (fun w2 hq hb2 => ?_)
  · have hbb := bl_trans hb1 hb2
    have h4 := h3.below hb2
    have f2 := fresh_mono f1 (Nat.le_refl _) hb2.size
    have ow2 := Lib.hid (Ow.out.below hb2)
    clear h3 f1 Ow hb1 hb2
    go_wp2_with fail
    refine two (l01In_any _ _ _ _) (fun hk => ?_) (fun hk => ?_)
    · have hkb := inB_iff.1 hk.out
      obtain ⟨n, rfl⟩ := Int.eq_ofNat_of_zero_le hkb.1
      have hn : n < pl.length := by omega
      go_wp2_with fail
      refine two (l01In_any _ _ _ _) (fun hp => ?_) (fun hp => ?_)
      · obtain ⟨g, off, u, rfl, hg, k0, k1, hru⟩ := h4.cell hn
        have htv := teach_v (p := px) hn hq.out hk.out hp.out
        have hsr : pl[n].1.length ≤ 16777216 := by
          have hqq := hq.out
          rw [playersB, Bool.and_eq_true, List.all_eq_true] at hqq
          have := hqq.1 _ (List.getElem_mem hn)
          rw [playerB, Bool.and_eq_true] at this
          have := strict_len (m := 6) this.1
          omega
        obtain ⟨Au, cu, rfl, hcu, hcu'⟩ := hru.form
        go_wp2_with fail
        refine twoB (l13Knows_any _ pl[n].1 pl[n].2 px _ hru) (fun w3 hkn hb3 => ?_) (fun w3 hkn hb3 => ?_)
        · have hte : teachB pl n px = false := by rw [htv, show knowsB pl[n] px = true from hkn.out]; rfl
          have Hte := Lib.hid hte
          clear htv hte
          go_wp2_with fail
          go_ret2
          exact retPls_of (teachF_f Hte.out) (ow2.out.below hb3) (fresh_mono f2 (Nat.le_refl _) hb3.size) (Nat.le_refl _) (bl_trans hbb hb3)
        · have hte : teachB pl n px = true := by rw [htv, show knowsB pl[n] px = false from hkn.out]; rfl
          have Hte := Lib.hid (teachF_t hn hte)
          clear htv hte
          have h5 := hru.below hb3
          replace k0 := carry hb3 k0
          replace k1 := carry hb3 k1
          have f3 := fresh_mono f2 (Nat.le_refl _) hb3.size
          have hbb3 := bl_trans hbb hb3
          obtain ⟨vs, hvl, hown, hrows, eS⟩ := ow2.out.below hb3
          obtain ⟨g1, cap1, e1⟩ := own_form hown (by omega)
          injection e1 with e11 e12 e13
          subst e11 e13
          rw [← e12] at hown
          have hgs : S = g1 :: plBlocks vs := eS
          rw [hgs] at f3
          have HR := Lib.hid hrows
          have HV := Lib.hid hvl
          have HN := Lib.hid e12
          have F3 := Lib.hid f3
          have HO := Lib.hid hown
          clear hown hrows hvl e12 f3 eS hgs hb3 hru f2 ow2 hbb
          obtain ⟨r, hr⟩ : ∃ r, pl[n].1 = r := ⟨_, rfl⟩
          obtain ⟨fr, hfr⟩ : ∃ fr, pl[n].2 = fr := ⟨_, rfl⟩
          have Hte' := Hte.out
          have hplset := pls_setF (B := w.heap.size) (n := pl.length) (vs := vs) (ll := pl) (g := g1) (c := c1) (k := n) HN.out HV.out hn
          rw [hr] at h5 k0 hsr hkn Hte' hcu
          rw [hfr] at k1 hkn Hte' hplset
          have Hte2 := Lib.hid Hte'
          have HS := Lib.hid hplset
          clear hr hfr Hte Hte' hplset
          go_wp2_with fail
          go_loop [9] (fun i => ∃ k : Nat, k ≤ r.length ∧ i = .int .i64 k ∧ Hid (∀ j (hj : j < r.length), j < k → r[j] < px)) (fun i => r.length - (intOf i).toNat)
          case atStart => exact ⟨0, Nat.zero_le _, rfl, fun j _ hj => absurd hj (by omega)⟩
          case round =>
            obtain ⟨k, hk, rfl, hall⟩ := hrel
            have hstop : ∀ W : World, RdL cInt 1 W (.slice Au r.length cu) r → (k = r.length ∨ (∃ hk : k < r.length, ¬ r[k] < px)) → atF px r = k := fun _ _ hh => atF_of r k hk hall.out (fun hk' => by rcases hh with h | ⟨_, h⟩; omega; exact h)
            have Hstop := Lib.hid hstop
            clear hstop
            by_cases hlt : k < r.length
            · obtain ⟨gu, ou, rfl, hgu, hcu2⟩ := h5.cell cInt_len (by omega) hlt
              have kk0 := hcu2 0 _ rfl
              simp only [Nat.add_zero, Nat.mul_one] at kk0
              clear hcu2
              by_cases hx : r[k] < px
              · have Hx := Lib.hid hx
                go_wp2_with fail
                go_round
                case rel => exact ⟨k + 1, by omega, by go_num, (fun j hj hjk => by
                  rcases Nat.lt_succ_iff_lt_or_eq.1 hjk with h | rfl
                  · exact hall.out j hj h
                  · exact Hx.out)⟩
                case measure => simp [intOf]; omega
              · have hat := Hstop.out _ h5 (.inr ⟨hlt, hx⟩)
                have hkl : k ≤ r.length := by omega
                obtain ⟨L1, hL1⟩ : ∃ L1, (r.take k).flatMap cInt = L1 := ⟨_, rfl⟩
                obtain ⟨L2, hL2⟩ : ∃ L2, (r.drop k).flatMap cInt = L2 := ⟨_, rfl⟩
                have hone1 : ∀ y ∈ L1, y.oneCell' = true := by rw [← hL1]; exact oneCell_flat cInt_one _
                have hone2 : ∀ y ∈ L2, y.oneCell' = true := by rw [← hL2]; exact oneCell_flat cInt_one _
                have hs1 : RdS w3 1 (.slice (some ⟨gu, ou, none⟩) k cu) k L1 := by rw [← hL1, flatI_take]; exact rdS_take h5 hkl
                have hd2 : RdS w3 1 (.slice (some ⟨gu, ou + k, none⟩) (r.length - k) (cu - k)) (r.length - k) L2 := by rw [← hL2, flatI_drop]; exact rdS_drop h5 hkl
                have hd3 : RdS w3 1 (.slice (some (if k = cu then ⟨gu, ou, none⟩ else ⟨gu, ou + k, none⟩)) (r.length - k) (cu - k)) (r.length - k) L2 := by rw [← hL2, flatI_drop]; exact rdS_dropA h5 hkl
                have hfl := putF_flat px r
                rw [hat, hL1, hL2] at hfl
                have Hfl := Lib.hid hfl
                have Hlen := Lib.hid (putF_len px r)
                clear hfl
                go_upto_region 8 with (fail)
                refine region_state (n := 74) 16 (by kernel_rfl) rfl (by kernel_rfl) tpgBef tpgNeed [13, 15] (by kernel_rfl) tpgR (fun _ w' => Below w3.heap.size w3 w') (fun _ => 0) (tpgP w3 (.slice (some ⟨gu, ou, none⟩) r.length cu) k (r.length - k) px L1 L2 (.slice (some ⟨g1, 0, none⟩) pl.length c1) n (.pointer (some ⟨g1, n * 2, none⟩))) ((Below.refl _ _).drew) ?_ ?_ ?_
                · intro i k v gh gh' w1 w2 hal hp hJ hR hg
                  match i, hp, hal with
                  | 0, hp, _ => exact hp
                  | 1, hp, _ => exact hp
                  | 2, ho, hal =>
                    rcases hR with rfl | rfl | hb
                    · exact absurd hal (by decide)
                    · exact absurd hal (by decide)
                    · obtain ⟨g, h1, h2⟩ := ho; exact ⟨g, h1, own_below h2 hb⟩
                  | 3, hp, _ => exact hp
                  | 4, hp, _ => exact hp
                  | 5, hp, _ => exact hp
                  | 6, ho, hal =>
                    rcases hR with rfl | rfl | hb
                    · exact absurd hal (by decide)
                    · exact absurd hal (by decide)
                    · exact own_below ho hb
                  | 7, hp, _ => exact hp
                  | 8, ho, hal =>
                    rcases hR with rfl | rfl | hb
                    · exact absurd hal (by decide)
                    · exact absurd hal (by decide)
                    · exact RdS.below ho hb
                  | 9, ho, hal =>
                    rcases hR with rfl | rfl | hb
                    · exact absurd hal (by decide)
                    · exact absurd hal (by decide)
                    · exact own_below ho hb
                  | 10, hp, _ => exact hp
                  | 11, hp, _ => exact hp
                  | 12, hp, _ => exact hp
                  | 13, ho, hal =>
                    rcases hR with rfl | rfl | hb
                    · exact absurd hal (by decide)
                    · exact absurd hal (by decide)
                    · exact own_below ho hb
                  | 14, hp, _ => exact hp
                  | 15, hp, _ => exact hp
                  | _ + 16, _, _ => trivial
                · refine ⟨?_, ?_, ?_, ?_, ?_, ?_, ?_, ?_, ?_, ?_, ?_, ?_, ?_, ?_, ?_, ?_, trivial⟩
                  all_goals
                    intro a gh wr d hag hdi hcl hJ hd
                    obtain ⟨x0, x1, x2, x3, x4, x5, x6, x7, x8, x9, x10, x11, x12, x13, x14, x15, x16, x17, x18, x19, x20, x21, x22, x23, x24, x25, x26, x27, x28, x29, x30, x31, x32, x33, x34, x35, x36, x37, x38, x39, x40, x41, x42, x43, x44, x45, x46, x47, x48, x49, x50, x51, x52, x53, x54, x55, x56, x57, x58, x59, x60, x61, x62, x63, x64, x65, x66, x67, x68, x69, x70, x71, x72, x73, rfl⟩ := act74tp hag.size hag.defers
                    have ag1 : x1 = .int .i64 (n : Nat) := hag.kept 1 (by kernel_rfl)
                    have ag2 : x2 = .int .i64 px := hag.kept 2 (by kernel_rfl)
                    have ag8 : x8 = .slice (some ⟨g1, 0, none⟩) pl.length c1 := hag.kept 8 (by kernel_rfl)
                    have ag9 : x9 = .int .i64 (k : Nat) := hag.kept 9 (by kernel_rfl)
                    have ag10 : x10 = .slice (some ⟨gu, ou, none⟩) r.length cu := hag.kept 10 (by kernel_rfl)
                    clear hag
                    subst ag1 ag2 ag8 ag9 ag10
                  · go_wp2_with fail
                    exact ⟨rfl, _, rfl, rfl, hJ, .inr (.inr (Below.refl _ _))⟩
                  · go_wp2_with fail
                    exact ⟨rfl, _, rfl, rfl, hJ, .inr (.inr (Below.refl _ _))⟩
                  · go_wp2_with fail
                    exact ⟨rfl, _, rfl, ⟨wr.heap.size, rfl, World.ownsRow_made (size := 1) (e := 3) wr #[] 0 hJ.size (by simp [maxLen]) rfl⟩, hJ.alloc hJ.size _, .inr (.inr ((Below.refl _ _).alloc (Nat.le_refl _) _))⟩
                  · go_wp2_with fail
                    exact ⟨rfl, _, rfl, rfl, hJ, .inr (.inr (Below.refl _ _))⟩
                  · go_wp2_with fail
                    exact ⟨rfl, _, rfl, rfl, hJ, .inr (.inr (Below.refl _ _))⟩
                  · have e1 : x60 = .slice (some ⟨gu, ou, none⟩) r.length cu := hd 3 (by kernel_rfl) _ rfl
                    have e2 : x61 = .int .i64 (k) := hd 4 (by kernel_rfl) _ rfl
                    subst e1 e2
                    go_wp2_with fail
                    all_goals
                      refine ⟨rfl, _, rfl, ?_, hJ, .inr (.inr (Below.refl _ _))⟩
                      first | exact hs1 | (simp; exact hs1) | (simp at hs1; exact hs1)
                  · obtain ⟨g1, e1, og⟩ : ∃ g, x59 = Value.slice (some ⟨g, 0, none⟩) 0 0 ∧ wr.ownsRow w3.heap.size 3 1 x59 0 ([]) := hd 2 (by kernel_rfl) _ rfl
                    have hs1 : RdS w3 1 x62 (k) L1 := hd 5 (by kernel_rfl) _ rfl
                    subst e1
                    go_wp2_with (at_builtin; refine wpList_append_empty _ rfl (.tmp 59) (.tmp 62) _ rfl w3.heap.size 3 iI _ 1 8 Try.underlying26 hiI hzI0 hzI1 hzI2 rfl (by omega) g1 rfl og _ (k) L1 rfl (hs1.below hJ) hone1 (by simp [maxLen] <;> omega) (by omega) hJ.size ?_; intro v3 w3 own3 b3 at3)
                    exact ⟨rfl, _, rfl, own3, hJ.trans (b3.mono hJ.size), .inr (.inr (b3))⟩
                  · go_wp2_with fail
                    exact ⟨rfl, _, rfl, rfl, hJ, .inr (.inr (Below.refl _ _))⟩
                  · have e1 : x64 = .int .i64 px := hd 7 (by kernel_rfl) _ rfl
                    subst e1
                    go_wp2_with fail
                    exact ⟨rfl, _, rfl, rdS_new wr #[.int .i64 px] _ 1 1 rfl (by simp [maxLen]), hJ.alloc hJ.size _, .inr (.inr ((Below.refl _ _).alloc (Nat.le_refl _) _))⟩
                  · have og : wr.ownsRow w3.heap.size 3 1 x63 (k) (L1) := hd 6 (by kernel_rfl) _ rfl
                    have ok : RdS wr 1 x65 1 [Value.int .i64 px] := hd 8 (by kernel_rfl) _ rfl
                    obtain ⟨Aa, ca, e0, _, _⟩ := (RdS.of_own og).form
                    go_wp2_with (at_builtin; refine wpList_appendB _ rfl (.tmp 63) (.tmp 65) _ rfl w3.heap.size 3 iI _ 1 8 Try.underlying26 hiI hzI0 hzI1 hzI2 rfl (by omega) x63 (k) (L1) rfl og _ 1 _ rfl ok (by simp [Value.oneCell']) (by simp [maxLen] <;> omega) (by omega) hJ.size ?_; intro v3 w3 own3 gr3 at3)
                    exact ⟨rfl, _, rfl, own3, hJ.trans (below_own og gr3 hJ.size), .inl rfl⟩
                  · go_wp2_with fail
                    exact ⟨rfl, _, rfl, rfl, hJ, .inr (.inr (Below.refl _ _))⟩
                  · go_wp2_with fail
                    exact ⟨rfl, _, rfl, rfl, hJ, .inr (.inr (Below.refl _ _))⟩
                  · have e1 : x67 = .slice (some ⟨gu, ou, none⟩) r.length cu := hd 10 (by kernel_rfl) _ rfl
                    have e2 : x68 = .int .i64 (k) := hd 11 (by kernel_rfl) _ rfl
                    subst e1 e2
                    go_wp2_with fail
                    all_goals
                      refine ⟨rfl, _, rfl, ?_, hJ, .inr (.inr (Below.refl _ _))⟩
                      first | exact hd2 | (rw [if_pos (show k = cu by omega), show cu - k = 0 by omega] at hd3; exact hd3) | (simp at hd3 ⊢; exact hd3)
                  · have og : wr.ownsRow w3.heap.size 3 1 x66 (k + 1) (L1 ++ [Value.int .i64 px]) := hd 9 (by kernel_rfl) _ rfl
                    have hs2 : RdS w3 1 x69 (r.length - k) L2 := hd 12 (by kernel_rfl) _ rfl
                    obtain ⟨Aa, ca, e0, _, _⟩ := (RdS.of_own og).form
                    go_wp2_with (at_builtin; refine wpList_appendB _ rfl (.tmp 66) (.tmp 69) _ rfl w3.heap.size 3 iI _ 1 8 Try.underlying26 hiI hzI0 hzI1 hzI2 rfl (by omega) x66 (k + 1) (L1 ++ [Value.int .i64 px]) rfl og _ (r.length - k) _ rfl (hs2.below hJ) hone2 (by simp [maxLen] <;> omega) (by omega) hJ.size ?_; intro v3 w3 own3 gr3 at3)
                    exact ⟨rfl, _, rfl, own3, hJ.trans (below_own og gr3 hJ.size), .inr (.inl rfl)⟩
                  · have e1 : x57 = .slice (some ⟨g1, 0, none⟩) pl.length c1 := hd 0 (by kernel_rfl) _ rfl
                    have e2 : x58 = .int .i64 (n : Nat) := hd 1 (by kernel_rfl) _ rfl
                    subst e1 e2
                    go_wp2_with fail
                    exact ⟨rfl, _, rfl, by simp [tpgP], hJ, .inr (.inr (Below.refl _ _))⟩
                  · have e1 : x71 = .pointer (some ⟨g1, n * 2, none⟩) := hd 14 (by kernel_rfl) _ rfl
                    subst e1
                    go_wp2_with fail
                    exact ⟨rfl, _, rfl, rfl, hJ, .inr (.inr (Below.refl _ _))⟩
                · intro a gh wr d hag hall hJ hd
                  obtain ⟨x0, x1, x2, x3, x4, x5, x6, x7, x8, x9, x10, x11, x12, x13, x14, x15, x16, x17, x18, x19, x20, x21, x22, x23, x24, x25, x26, x27, x28, x29, x30, x31, x32, x33, x34, x35, x36, x37, x38, x39, x40, x41, x42, x43, x44, x45, x46, x47, x48, x49, x50, x51, x52, x53, x54, x55, x56, x57, x58, x59, x60, x61, x62, x63, x64, x65, x66, x67, x68, x69, x70, x71, x72, x73, rfl⟩ := act74tp hag.size hag.defers
                  have ag1 : x1 = .int .i64 (n : Nat) := hag.kept 1 (by kernel_rfl)
                  have ag2 : x2 = .int .i64 px := hag.kept 2 (by kernel_rfl)
                  have ag8 : x8 = .slice (some ⟨g1, 0, none⟩) pl.length c1 := hag.kept 8 (by kernel_rfl)
                  have ag9 : x9 = .int .i64 (k : Nat) := hag.kept 9 (by kernel_rfl)
                  have ag10 : x10 = .slice (some ⟨gu, ou, none⟩) r.length cu := hag.kept 10 (by kernel_rfl)
                  clear hag
                  subst ag1 ag2 ag8 ag9 ag10
                  have hownN : wr.ownsRow w3.heap.size 3 1 x70 (k + 1 + (r.length - k)) ((L1 ++ [Value.int .i64 px]) ++ L2) := hd 13 (by kernel_rfl) _ rfl
                  have e15 : x72 = .pointer (some ⟨g1, n * 2, none⟩) := hd 15 (by kernel_rfl) _ rfl
                  subst e15
                  clear hd
                  rw [Hfl.out, show k + 1 + (r.length - k) = (putF px r).length by rw [Hlen.out]; omega] at hownN
                  obtain ⟨A9, c9, e9, _, _⟩ := (RdS.of_own hownN).form
                  subst e9
                  have hw3 := hbb3.size
                  have hO := own_below HO.out hJ
                  have hlow := F3.out.2
                  have f9 := fresh_mono F3.out (Nat.le_refl _) hJ.size
                  have hk4 : OwL 3 cInt 1 wr (Value.slice A9 (putF px r).length c9).ownBlock.toList (.slice A9 (putF px r).length c9) (putF px r) := ⟨own_mono hownN (Nat.zero_le _), rfl⟩
                  have hf4 : Fresh w.heap.size wr (Value.slice A9 (putF px r).length c9).ownBlock.toList := fresh_mono (fresh_of hownN) hw3 (Nat.le_refl _)
                  have hset := HS.out wr _ _ _ hO (fun i p q hp hq => ⟨(HR.out i p q hp hq).1, own_below (HR.out i p q hp hq).2 hJ⟩) f9 hk4 hf4 (fun b hb hb' => by have := (hlow b hb).2; have := (hownN.lt b (by simpa using hb')).1; omega)
                  have hxl := hO.1
                  obtain ⟨u0, k9⟩ : ∃ u, wr.cell? ⟨g1, n * 2, none⟩ = some u := ⟨_, (hO.cellAt (n * 2) (by omega)).trans (List.getElem?_eq_getElem (by omega))⟩
                  have f9' := hO.frozenAt (n * 2)
                  have hb9 : Below w.heap.size w (wr.setCell ⟨g1, n * 2, none⟩ (.slice A9 (putF px r).length c9)) := (bl_trans hbb3 hJ).setCell (by have := (hlow g1 List.mem_cons_self).1; omega) _
                  have Hset := Lib.hid hset
                  clear hset hO hlow f9 hk4 hf4 hxl hownN
                  change wpList _ _ _ [_] _ _
                  go_wp2_with fail
                  go_ret2
                  exact retPls_of Hte2.out Hset.out.1 Hset.out.2 (Nat.le_refl _) hb9
            · have hat := Hstop.out _ h5 (.inl (by omega))
              by_cases h00 : 0 < r.length
              · obtain ⟨gu, ou, rfl, hgu, hcu2⟩ := h5.cell (k := 0) cInt_len (by omega) h00
                clear hcu2
                have hkl : k ≤ r.length := by omega
                obtain ⟨L1, hL1⟩ : ∃ L1, (r.take k).flatMap cInt = L1 := ⟨_, rfl⟩
                obtain ⟨L2, hL2⟩ : ∃ L2, (r.drop k).flatMap cInt = L2 := ⟨_, rfl⟩
                have hone1 : ∀ y ∈ L1, y.oneCell' = true := by rw [← hL1]; exact oneCell_flat cInt_one _
                have hone2 : ∀ y ∈ L2, y.oneCell' = true := by rw [← hL2]; exact oneCell_flat cInt_one _
                have hs1 : RdS w3 1 (.slice (some ⟨gu, ou, none⟩) k cu) k L1 := by rw [← hL1, flatI_take]; exact rdS_take h5 hkl
                have hd2 : RdS w3 1 (.slice (some ⟨gu, ou + k, none⟩) (r.length - k) (cu - k)) (r.length - k) L2 := by rw [← hL2, flatI_drop]; exact rdS_drop h5 hkl
                have hd3 : RdS w3 1 (.slice (some (if k = cu then ⟨gu, ou, none⟩ else ⟨gu, ou + k, none⟩)) (r.length - k) (cu - k)) (r.length - k) L2 := by rw [← hL2, flatI_drop]; exact rdS_dropA h5 hkl
                have hfl := putF_flat px r
                rw [hat, hL1, hL2] at hfl
                have Hfl := Lib.hid hfl
                have Hlen := Lib.hid (putF_len px r)
                clear hfl
                go_upto_region 8 with (fail)
                refine region_state (n := 74) 16 (by kernel_rfl) rfl (by kernel_rfl) tpgBef tpgNeed [13, 15] (by kernel_rfl) tpgR (fun _ w' => Below w3.heap.size w3 w') (fun _ => 0) (tpgP w3 (.slice (some ⟨gu, ou, none⟩) r.length cu) k (r.length - k) px L1 L2 (.slice (some ⟨g1, 0, none⟩) pl.length c1) n (.pointer (some ⟨g1, n * 2, none⟩))) ((Below.refl _ _).drew) ?_ ?_ ?_
                · intro i k v gh gh' w1 w2 hal hp hJ hR hg
                  match i, hp, hal with
                  | 0, hp, _ => exact hp
                  | 1, hp, _ => exact hp
                  | 2, ho, hal =>
                    rcases hR with rfl | rfl | hb
                    · exact absurd hal (by decide)
                    · exact absurd hal (by decide)
                    · obtain ⟨g, h1, h2⟩ := ho; exact ⟨g, h1, own_below h2 hb⟩
                  | 3, hp, _ => exact hp
                  | 4, hp, _ => exact hp
                  | 5, hp, _ => exact hp
                  | 6, ho, hal =>
                    rcases hR with rfl | rfl | hb
                    · exact absurd hal (by decide)
                    · exact absurd hal (by decide)
                    · exact own_below ho hb
                  | 7, hp, _ => exact hp
                  | 8, ho, hal =>
                    rcases hR with rfl | rfl | hb
                    · exact absurd hal (by decide)
                    · exact absurd hal (by decide)
                    · exact RdS.below ho hb
                  | 9, ho, hal =>
                    rcases hR with rfl | rfl | hb
                    · exact absurd hal (by decide)
                    · exact absurd hal (by decide)
                    · exact own_below ho hb
                  | 10, hp, _ => exact hp
                  | 11, hp, _ => exact hp
                  | 12, hp, _ => exact hp
                  | 13, ho, hal =>
                    rcases hR with rfl | rfl | hb
                    · exact absurd hal (by decide)
                    · exact absurd hal (by decide)
                    · exact own_below ho hb
                  | 14, hp, _ => exact hp
                  | 15, hp, _ => exact hp
                  | _ + 16, _, _ => trivial
                · refine ⟨?_, ?_, ?_, ?_, ?_, ?_, ?_, ?_, ?_, ?_, ?_, ?_, ?_, ?_, ?_, ?_, trivial⟩
                  all_goals
                    intro a gh wr d hag hdi hcl hJ hd
                    obtain ⟨x0, x1, x2, x3, x4, x5, x6, x7, x8, x9, x10, x11, x12, x13, x14, x15, x16, x17, x18, x19, x20, x21, x22, x23, x24, x25, x26, x27, x28, x29, x30, x31, x32, x33, x34, x35, x36, x37, x38, x39, x40, x41, x42, x43, x44, x45, x46, x47, x48, x49, x50, x51, x52, x53, x54, x55, x56, x57, x58, x59, x60, x61, x62, x63, x64, x65, x66, x67, x68, x69, x70, x71, x72, x73, rfl⟩ := act74tp hag.size hag.defers
                    have ag1 : x1 = .int .i64 (n : Nat) := hag.kept 1 (by kernel_rfl)
                    have ag2 : x2 = .int .i64 px := hag.kept 2 (by kernel_rfl)
                    have ag8 : x8 = .slice (some ⟨g1, 0, none⟩) pl.length c1 := hag.kept 8 (by kernel_rfl)
                    have ag9 : x9 = .int .i64 (k : Nat) := hag.kept 9 (by kernel_rfl)
                    have ag10 : x10 = .slice (some ⟨gu, ou, none⟩) r.length cu := hag.kept 10 (by kernel_rfl)
                    clear hag
                    subst ag1 ag2 ag8 ag9 ag10
                  · go_wp2_with fail
                    exact ⟨rfl, _, rfl, rfl, hJ, .inr (.inr (Below.refl _ _))⟩
                  · go_wp2_with fail
                    exact ⟨rfl, _, rfl, rfl, hJ, .inr (.inr (Below.refl _ _))⟩
                  · go_wp2_with fail
                    exact ⟨rfl, _, rfl, ⟨wr.heap.size, rfl, World.ownsRow_made (size := 1) (e := 3) wr #[] 0 hJ.size (by simp [maxLen]) rfl⟩, hJ.alloc hJ.size _, .inr (.inr ((Below.refl _ _).alloc (Nat.le_refl _) _))⟩
                  · go_wp2_with fail
                    exact ⟨rfl, _, rfl, rfl, hJ, .inr (.inr (Below.refl _ _))⟩
                  · go_wp2_with fail
                    exact ⟨rfl, _, rfl, rfl, hJ, .inr (.inr (Below.refl _ _))⟩
                  · have e1 : x60 = .slice (some ⟨gu, ou, none⟩) r.length cu := hd 3 (by kernel_rfl) _ rfl
                    have e2 : x61 = .int .i64 (k) := hd 4 (by kernel_rfl) _ rfl
                    subst e1 e2
                    go_wp2_with fail
                    all_goals
                      refine ⟨rfl, _, rfl, ?_, hJ, .inr (.inr (Below.refl _ _))⟩
                      first | exact hs1 | (simp; exact hs1) | (simp at hs1; exact hs1)
                  · obtain ⟨g1, e1, og⟩ : ∃ g, x59 = Value.slice (some ⟨g, 0, none⟩) 0 0 ∧ wr.ownsRow w3.heap.size 3 1 x59 0 ([]) := hd 2 (by kernel_rfl) _ rfl
                    have hs1 : RdS w3 1 x62 (k) L1 := hd 5 (by kernel_rfl) _ rfl
                    subst e1
                    go_wp2_with (at_builtin; refine wpList_append_empty _ rfl (.tmp 59) (.tmp 62) _ rfl w3.heap.size 3 iI _ 1 8 Try.underlying26 hiI hzI0 hzI1 hzI2 rfl (by omega) g1 rfl og _ (k) L1 rfl (hs1.below hJ) hone1 (by simp [maxLen] <;> omega) (by omega) hJ.size ?_; intro v3 w3 own3 b3 at3)
                    exact ⟨rfl, _, rfl, own3, hJ.trans (b3.mono hJ.size), .inr (.inr (b3))⟩
                  · go_wp2_with fail
                    exact ⟨rfl, _, rfl, rfl, hJ, .inr (.inr (Below.refl _ _))⟩
                  · have e1 : x64 = .int .i64 px := hd 7 (by kernel_rfl) _ rfl
                    subst e1
                    go_wp2_with fail
                    exact ⟨rfl, _, rfl, rdS_new wr #[.int .i64 px] _ 1 1 rfl (by simp [maxLen]), hJ.alloc hJ.size _, .inr (.inr ((Below.refl _ _).alloc (Nat.le_refl _) _))⟩
                  · have og : wr.ownsRow w3.heap.size 3 1 x63 (k) (L1) := hd 6 (by kernel_rfl) _ rfl
                    have ok : RdS wr 1 x65 1 [Value.int .i64 px] := hd 8 (by kernel_rfl) _ rfl
                    obtain ⟨Aa, ca, e0, _, _⟩ := (RdS.of_own og).form
                    go_wp2_with (at_builtin; refine wpList_appendB _ rfl (.tmp 63) (.tmp 65) _ rfl w3.heap.size 3 iI _ 1 8 Try.underlying26 hiI hzI0 hzI1 hzI2 rfl (by omega) x63 (k) (L1) rfl og _ 1 _ rfl ok (by simp [Value.oneCell']) (by simp [maxLen] <;> omega) (by omega) hJ.size ?_; intro v3 w3 own3 gr3 at3)
                    exact ⟨rfl, _, rfl, own3, hJ.trans (below_own og gr3 hJ.size), .inl rfl⟩
                  · go_wp2_with fail
                    exact ⟨rfl, _, rfl, rfl, hJ, .inr (.inr (Below.refl _ _))⟩
                  · go_wp2_with fail
                    exact ⟨rfl, _, rfl, rfl, hJ, .inr (.inr (Below.refl _ _))⟩
                  · have e1 : x67 = .slice (some ⟨gu, ou, none⟩) r.length cu := hd 10 (by kernel_rfl) _ rfl
                    have e2 : x68 = .int .i64 (k) := hd 11 (by kernel_rfl) _ rfl
                    subst e1 e2
                    go_wp2_with fail
                    all_goals
                      refine ⟨rfl, _, rfl, ?_, hJ, .inr (.inr (Below.refl _ _))⟩
                      first | exact hd2 | (rw [if_pos (show k = cu by omega), show cu - k = 0 by omega] at hd3; exact hd3) | (simp at hd3 ⊢; exact hd3)
                  · have og : wr.ownsRow w3.heap.size 3 1 x66 (k + 1) (L1 ++ [Value.int .i64 px]) := hd 9 (by kernel_rfl) _ rfl
                    have hs2 : RdS w3 1 x69 (r.length - k) L2 := hd 12 (by kernel_rfl) _ rfl
                    obtain ⟨Aa, ca, e0, _, _⟩ := (RdS.of_own og).form
                    go_wp2_with (at_builtin; refine wpList_appendB _ rfl (.tmp 66) (.tmp 69) _ rfl w3.heap.size 3 iI _ 1 8 Try.underlying26 hiI hzI0 hzI1 hzI2 rfl (by omega) x66 (k + 1) (L1 ++ [Value.int .i64 px]) rfl og _ (r.length - k) _ rfl (hs2.below hJ) hone2 (by simp [maxLen] <;> omega) (by omega) hJ.size ?_; intro v3 w3 own3 gr3 at3)
                    exact ⟨rfl, _, rfl, own3, hJ.trans (below_own og gr3 hJ.size), .inr (.inl rfl)⟩
                  · have e1 : x57 = .slice (some ⟨g1, 0, none⟩) pl.length c1 := hd 0 (by kernel_rfl) _ rfl
                    have e2 : x58 = .int .i64 (n : Nat) := hd 1 (by kernel_rfl) _ rfl
                    subst e1 e2
                    go_wp2_with fail
                    exact ⟨rfl, _, rfl, by simp [tpgP], hJ, .inr (.inr (Below.refl _ _))⟩
                  · have e1 : x71 = .pointer (some ⟨g1, n * 2, none⟩) := hd 14 (by kernel_rfl) _ rfl
                    subst e1
                    go_wp2_with fail
                    exact ⟨rfl, _, rfl, rfl, hJ, .inr (.inr (Below.refl _ _))⟩
                · intro a gh wr d hag hall hJ hd
                  obtain ⟨x0, x1, x2, x3, x4, x5, x6, x7, x8, x9, x10, x11, x12, x13, x14, x15, x16, x17, x18, x19, x20, x21, x22, x23, x24, x25, x26, x27, x28, x29, x30, x31, x32, x33, x34, x35, x36, x37, x38, x39, x40, x41, x42, x43, x44, x45, x46, x47, x48, x49, x50, x51, x52, x53, x54, x55, x56, x57, x58, x59, x60, x61, x62, x63, x64, x65, x66, x67, x68, x69, x70, x71, x72, x73, rfl⟩ := act74tp hag.size hag.defers
                  have ag1 : x1 = .int .i64 (n : Nat) := hag.kept 1 (by kernel_rfl)
                  have ag2 : x2 = .int .i64 px := hag.kept 2 (by kernel_rfl)
                  have ag8 : x8 = .slice (some ⟨g1, 0, none⟩) pl.length c1 := hag.kept 8 (by kernel_rfl)
                  have ag9 : x9 = .int .i64 (k : Nat) := hag.kept 9 (by kernel_rfl)
                  have ag10 : x10 = .slice (some ⟨gu, ou, none⟩) r.length cu := hag.kept 10 (by kernel_rfl)
                  clear hag
                  subst ag1 ag2 ag8 ag9 ag10
                  have hownN : wr.ownsRow w3.heap.size 3 1 x70 (k + 1 + (r.length - k)) ((L1 ++ [Value.int .i64 px]) ++ L2) := hd 13 (by kernel_rfl) _ rfl
                  have e15 : x72 = .pointer (some ⟨g1, n * 2, none⟩) := hd 15 (by kernel_rfl) _ rfl
                  subst e15
                  clear hd
                  rw [Hfl.out, show k + 1 + (r.length - k) = (putF px r).length by rw [Hlen.out]; omega] at hownN
                  obtain ⟨A9, c9, e9, _, _⟩ := (RdS.of_own hownN).form
                  subst e9
                  have hw3 := hbb3.size
                  have hO := own_below HO.out hJ
                  have hlow := F3.out.2
                  have f9 := fresh_mono F3.out (Nat.le_refl _) hJ.size
                  have hk4 : OwL 3 cInt 1 wr (Value.slice A9 (putF px r).length c9).ownBlock.toList (.slice A9 (putF px r).length c9) (putF px r) := ⟨own_mono hownN (Nat.zero_le _), rfl⟩
                  have hf4 : Fresh w.heap.size wr (Value.slice A9 (putF px r).length c9).ownBlock.toList := fresh_mono (fresh_of hownN) hw3 (Nat.le_refl _)
                  have hset := HS.out wr _ _ _ hO (fun i p q hp hq => ⟨(HR.out i p q hp hq).1, own_below (HR.out i p q hp hq).2 hJ⟩) f9 hk4 hf4 (fun b hb hb' => by have := (hlow b hb).2; have := (hownN.lt b (by simpa using hb')).1; omega)
                  have hxl := hO.1
                  obtain ⟨u0, k9⟩ : ∃ u, wr.cell? ⟨g1, n * 2, none⟩ = some u := ⟨_, (hO.cellAt (n * 2) (by omega)).trans (List.getElem?_eq_getElem (by omega))⟩
                  have f9' := hO.frozenAt (n * 2)
                  have hb9 : Below w.heap.size w (wr.setCell ⟨g1, n * 2, none⟩ (.slice A9 (putF px r).length c9)) := (bl_trans hbb3 hJ).setCell (by have := (hlow g1 List.mem_cons_self).1; omega) _
                  have Hset := Lib.hid hset
                  clear hset hO hlow f9 hk4 hf4 hxl hownN
                  change wpList _ _ _ [_] _ _
                  go_wp2_with fail
                  go_ret2
                  exact retPls_of Hte2.out Hset.out.1 Hset.out.2 (Nat.le_refl _) hb9
              · obtain rfl : r = [] := List.eq_nil_of_length_eq_zero (by omega)
                simp only [List.length_nil] at *
                obtain rfl : k = 0 := by omega
                have hkl : 0 ≤ 0 := by omega
                obtain ⟨L1, hL1⟩ : ∃ L1, (([] : List Int).take 0).flatMap cInt = L1 := ⟨_, rfl⟩
                obtain ⟨L2, hL2⟩ : ∃ L2, (([] : List Int).drop 0).flatMap cInt = L2 := ⟨_, rfl⟩
                have hone1 : ∀ y ∈ L1, y.oneCell' = true := by rw [← hL1]; exact oneCell_flat cInt_one _
                have hone2 : ∀ y ∈ L2, y.oneCell' = true := by rw [← hL2]; exact oneCell_flat cInt_one _
                have hs1 : RdS w3 1 (.slice Au 0 cu) 0 L1 := rdS_zero (by rw [← hL1]; rfl) (by simp [maxLen] <;> omega)
                have hd2 : RdS w3 1 (.slice Au 0 cu) 0 L2 := rdS_zero (by rw [← hL2]; rfl) (by simp [maxLen] <;> omega)
                have hfl := putF_flat px ([] : List Int)
                rw [hat, hL1, hL2] at hfl
                have Hfl := Lib.hid hfl
                have Hlen := Lib.hid (putF_len px ([] : List Int))
                clear hfl
                go_upto_region 8 with (fail)
                refine region_state (n := 74) 16 (by kernel_rfl) rfl (by kernel_rfl) tpgBef tpgNeed [13, 15] (by kernel_rfl) tpgR (fun _ w' => Below w3.heap.size w3 w') (fun _ => 0) (tpgP w3 (.slice Au 0 cu) 0 (0) px L1 L2 (.slice (some ⟨g1, 0, none⟩) pl.length c1) n (.pointer (some ⟨g1, n * 2, none⟩))) ((Below.refl _ _).drew) ?_ ?_ ?_
                · intro i k v gh gh' w1 w2 hal hp hJ hR hg
                  match i, hp, hal with
                  | 0, hp, _ => exact hp
                  | 1, hp, _ => exact hp
                  | 2, ho, hal =>
                    rcases hR with rfl | rfl | hb
                    · exact absurd hal (by decide)
                    · exact absurd hal (by decide)
                    · obtain ⟨g, h1, h2⟩ := ho; exact ⟨g, h1, own_below h2 hb⟩
                  | 3, hp, _ => exact hp
                  | 4, hp, _ => exact hp
                  | 5, hp, _ => exact hp
                  | 6, ho, hal =>
                    rcases hR with rfl | rfl | hb
                    · exact absurd hal (by decide)
                    · exact absurd hal (by decide)
                    · exact own_below ho hb
                  | 7, hp, _ => exact hp
                  | 8, ho, hal =>
                    rcases hR with rfl | rfl | hb
                    · exact absurd hal (by decide)
                    · exact absurd hal (by decide)
                    · exact RdS.below ho hb
                  | 9, ho, hal =>
                    rcases hR with rfl | rfl | hb
                    · exact absurd hal (by decide)
                    · exact absurd hal (by decide)
                    · exact own_below ho hb
                  | 10, hp, _ => exact hp
                  | 11, hp, _ => exact hp
                  | 12, hp, _ => exact hp
                  | 13, ho, hal =>
                    rcases hR with rfl | rfl | hb
                    · exact absurd hal (by decide)
                    · exact absurd hal (by decide)
                    · exact own_below ho hb
                  | 14, hp, _ => exact hp
                  | 15, hp, _ => exact hp
                  | _ + 16, _, _ => trivial
                · refine ⟨?_, ?_, ?_, ?_, ?_, ?_, ?_, ?_, ?_, ?_, ?_, ?_, ?_, ?_, ?_, ?_, trivial⟩
                  all_goals
                    intro a gh wr d hag hdi hcl hJ hd
                    obtain ⟨x0, x1, x2, x3, x4, x5, x6, x7, x8, x9, x10, x11, x12, x13, x14, x15, x16, x17, x18, x19, x20, x21, x22, x23, x24, x25, x26, x27, x28, x29, x30, x31, x32, x33, x34, x35, x36, x37, x38, x39, x40, x41, x42, x43, x44, x45, x46, x47, x48, x49, x50, x51, x52, x53, x54, x55, x56, x57, x58, x59, x60, x61, x62, x63, x64, x65, x66, x67, x68, x69, x70, x71, x72, x73, rfl⟩ := act74tp hag.size hag.defers
                    have ag1 : x1 = .int .i64 (n : Nat) := hag.kept 1 (by kernel_rfl)
                    have ag2 : x2 = .int .i64 px := hag.kept 2 (by kernel_rfl)
                    have ag8 : x8 = .slice (some ⟨g1, 0, none⟩) pl.length c1 := hag.kept 8 (by kernel_rfl)
                    have ag9 : x9 = .int .i64 (0 : Nat) := hag.kept 9 (by kernel_rfl)
                    have ag10 : x10 = .slice Au 0 cu := hag.kept 10 (by kernel_rfl)
                    clear hag
                    subst ag1 ag2 ag8 ag9 ag10
                  · go_wp2_with fail
                    exact ⟨rfl, _, rfl, rfl, hJ, .inr (.inr (Below.refl _ _))⟩
                  · go_wp2_with fail
                    exact ⟨rfl, _, rfl, rfl, hJ, .inr (.inr (Below.refl _ _))⟩
                  · go_wp2_with fail
                    exact ⟨rfl, _, rfl, ⟨wr.heap.size, rfl, World.ownsRow_made (size := 1) (e := 3) wr #[] 0 hJ.size (by simp [maxLen]) rfl⟩, hJ.alloc hJ.size _, .inr (.inr ((Below.refl _ _).alloc (Nat.le_refl _) _))⟩
                  · go_wp2_with fail
                    exact ⟨rfl, _, rfl, rfl, hJ, .inr (.inr (Below.refl _ _))⟩
                  · go_wp2_with fail
                    exact ⟨rfl, _, rfl, rfl, hJ, .inr (.inr (Below.refl _ _))⟩
                  · have e1 : x60 = .slice Au 0 cu := hd 3 (by kernel_rfl) _ rfl
                    have e2 : x61 = .int .i64 (0) := hd 4 (by kernel_rfl) _ rfl
                    subst e1 e2
                    go_wp2_with fail
                    all_goals
                      refine ⟨rfl, _, rfl, ?_, hJ, .inr (.inr (Below.refl _ _))⟩
                      exact hs1
                  · obtain ⟨g1, e1, og⟩ : ∃ g, x59 = Value.slice (some ⟨g, 0, none⟩) 0 0 ∧ wr.ownsRow w3.heap.size 3 1 x59 0 ([]) := hd 2 (by kernel_rfl) _ rfl
                    have hs1 : RdS w3 1 x62 (0) L1 := hd 5 (by kernel_rfl) _ rfl
                    subst e1
                    go_wp2_with (at_builtin; refine wpList_append_empty _ rfl (.tmp 59) (.tmp 62) _ rfl w3.heap.size 3 iI _ 1 8 Try.underlying26 hiI hzI0 hzI1 hzI2 rfl (by omega) g1 rfl og _ (0) L1 rfl (hs1.below hJ) hone1 (by simp [maxLen] <;> omega) (by omega) hJ.size ?_; intro v3 w3 own3 b3 at3)
                    exact ⟨rfl, _, rfl, own3, hJ.trans (b3.mono hJ.size), .inr (.inr (b3))⟩
                  · go_wp2_with fail
                    exact ⟨rfl, _, rfl, rfl, hJ, .inr (.inr (Below.refl _ _))⟩
                  · have e1 : x64 = .int .i64 px := hd 7 (by kernel_rfl) _ rfl
                    subst e1
                    go_wp2_with fail
                    exact ⟨rfl, _, rfl, rdS_new wr #[.int .i64 px] _ 1 1 rfl (by simp [maxLen]), hJ.alloc hJ.size _, .inr (.inr ((Below.refl _ _).alloc (Nat.le_refl _) _))⟩
                  · have og : wr.ownsRow w3.heap.size 3 1 x63 (0) (L1) := hd 6 (by kernel_rfl) _ rfl
                    have ok : RdS wr 1 x65 1 [Value.int .i64 px] := hd 8 (by kernel_rfl) _ rfl
                    obtain ⟨Aa, ca, e0, _, _⟩ := (RdS.of_own og).form
                    go_wp2_with (at_builtin; refine wpList_appendB _ rfl (.tmp 63) (.tmp 65) _ rfl w3.heap.size 3 iI _ 1 8 Try.underlying26 hiI hzI0 hzI1 hzI2 rfl (by omega) x63 (0) (L1) rfl og _ 1 _ rfl ok (by simp [Value.oneCell']) (by simp [maxLen] <;> omega) (by omega) hJ.size ?_; intro v3 w3 own3 gr3 at3)
                    exact ⟨rfl, _, rfl, own3, hJ.trans (below_own og gr3 hJ.size), .inl rfl⟩
                  · go_wp2_with fail
                    exact ⟨rfl, _, rfl, rfl, hJ, .inr (.inr (Below.refl _ _))⟩
                  · go_wp2_with fail
                    exact ⟨rfl, _, rfl, rfl, hJ, .inr (.inr (Below.refl _ _))⟩
                  · have e1 : x67 = .slice Au 0 cu := hd 10 (by kernel_rfl) _ rfl
                    have e2 : x68 = .int .i64 (0) := hd 11 (by kernel_rfl) _ rfl
                    subst e1 e2
                    go_wp2_with fail
                    all_goals
                      refine ⟨rfl, _, rfl, ?_, hJ, .inr (.inr (Below.refl _ _))⟩
                      exact hd2
                  · have og : wr.ownsRow w3.heap.size 3 1 x66 (0 + 1) (L1 ++ [Value.int .i64 px]) := hd 9 (by kernel_rfl) _ rfl
                    have hs2 : RdS w3 1 x69 (0) L2 := hd 12 (by kernel_rfl) _ rfl
                    obtain ⟨Aa, ca, e0, _, _⟩ := (RdS.of_own og).form
                    go_wp2_with (at_builtin; refine wpList_appendB _ rfl (.tmp 66) (.tmp 69) _ rfl w3.heap.size 3 iI _ 1 8 Try.underlying26 hiI hzI0 hzI1 hzI2 rfl (by omega) x66 (0 + 1) (L1 ++ [Value.int .i64 px]) rfl og _ (0) _ rfl (hs2.below hJ) hone2 (by simp [maxLen] <;> omega) (by omega) hJ.size ?_; intro v3 w3 own3 gr3 at3)
                    exact ⟨rfl, _, rfl, own3, hJ.trans (below_own og gr3 hJ.size), .inr (.inl rfl)⟩
                  · have e1 : x57 = .slice (some ⟨g1, 0, none⟩) pl.length c1 := hd 0 (by kernel_rfl) _ rfl
                    have e2 : x58 = .int .i64 (n : Nat) := hd 1 (by kernel_rfl) _ rfl
                    subst e1 e2
                    go_wp2_with fail
                    exact ⟨rfl, _, rfl, by simp [tpgP], hJ, .inr (.inr (Below.refl _ _))⟩
                  · have e1 : x71 = .pointer (some ⟨g1, n * 2, none⟩) := hd 14 (by kernel_rfl) _ rfl
                    subst e1
                    go_wp2_with fail
                    exact ⟨rfl, _, rfl, rfl, hJ, .inr (.inr (Below.refl _ _))⟩
                · intro a gh wr d hag hall hJ hd
                  obtain ⟨x0, x1, x2, x3, x4, x5, x6, x7, x8, x9, x10, x11, x12, x13, x14, x15, x16, x17, x18, x19, x20, x21, x22, x23, x24, x25, x26, x27, x28, x29, x30, x31, x32, x33, x34, x35, x36, x37, x38, x39, x40, x41, x42, x43, x44, x45, x46, x47, x48, x49, x50, x51, x52, x53, x54, x55, x56, x57, x58, x59, x60, x61, x62, x63, x64, x65, x66, x67, x68, x69, x70, x71, x72, x73, rfl⟩ := act74tp hag.size hag.defers
                  have ag1 : x1 = .int .i64 (n : Nat) := hag.kept 1 (by kernel_rfl)
                  have ag2 : x2 = .int .i64 px := hag.kept 2 (by kernel_rfl)
                  have ag8 : x8 = .slice (some ⟨g1, 0, none⟩) pl.length c1 := hag.kept 8 (by kernel_rfl)
                  have ag9 : x9 = .int .i64 (0 : Nat) := hag.kept 9 (by kernel_rfl)
                  have ag10 : x10 = .slice Au 0 cu := hag.kept 10 (by kernel_rfl)
                  clear hag
                  subst ag1 ag2 ag8 ag9 ag10
                  have hownN : wr.ownsRow w3.heap.size 3 1 x70 (0 + 1 + (0)) ((L1 ++ [Value.int .i64 px]) ++ L2) := hd 13 (by kernel_rfl) _ rfl
                  have e15 : x72 = .pointer (some ⟨g1, n * 2, none⟩) := hd 15 (by kernel_rfl) _ rfl
                  subst e15
                  clear hd
                  rw [Hfl.out, show 0 + 1 + (0) = (putF px ([] : List Int)).length by rw [Hlen.out]; rfl] at hownN
                  obtain ⟨A9, c9, e9, _, _⟩ := (RdS.of_own hownN).form
                  subst e9
                  have hw3 := hbb3.size
                  have hO := own_below HO.out hJ
                  have hlow := F3.out.2
                  have f9 := fresh_mono F3.out (Nat.le_refl _) hJ.size
                  have hk4 : OwL 3 cInt 1 wr (Value.slice A9 (putF px ([] : List Int)).length c9).ownBlock.toList (.slice A9 (putF px ([] : List Int)).length c9) (putF px ([] : List Int)) := ⟨own_mono hownN (Nat.zero_le _), rfl⟩
                  have hf4 : Fresh w.heap.size wr (Value.slice A9 (putF px ([] : List Int)).length c9).ownBlock.toList := fresh_mono (fresh_of hownN) hw3 (Nat.le_refl _)
                  have hset := HS.out wr _ _ _ hO (fun i p q hp hq => ⟨(HR.out i p q hp hq).1, own_below (HR.out i p q hp hq).2 hJ⟩) f9 hk4 hf4 (fun b hb hb' => by have := (hlow b hb).2; have := (hownN.lt b (by simpa using hb')).1; omega)
                  have hxl := hO.1
                  obtain ⟨u0, k9⟩ : ∃ u, wr.cell? ⟨g1, n * 2, none⟩ = some u := ⟨_, (hO.cellAt (n * 2) (by omega)).trans (List.getElem?_eq_getElem (by omega))⟩
                  have f9' := hO.frozenAt (n * 2)
                  have hb9 : Below w.heap.size w (wr.setCell ⟨g1, n * 2, none⟩ (.slice A9 (putF px ([] : List Int)).length c9)) := (bl_trans hbb3 hJ).setCell (by have := (hlow g1 List.mem_cons_self).1; omega) _
                  have Hset := Lib.hid hset
                  clear hset hO hlow f9 hk4 hf4 hxl hownN
                  change wpList _ _ _ [_] _ _
                  go_wp2_with fail
                  go_ret2
                  exact retPls_of Hte2.out Hset.out.1 Hset.out.2 (Nat.le_refl _) hb9
      · have Hte := Lib.hid (teach_f3 (pl := pl) (k := n) hp.out)
        go_wp2_with fail
        go_ret2
        exact retPls_of (teachF_f Hte.out) ow2.out f2 (Nat.le_refl _) hbb
    · have Hte := Lib.hid (teach_f2 (p := px) hk.out)
      go_wp2_with fail
      go_ret2
      exact retPls_of (teachF_f Hte.out) ow2.out f2 (Nat.le_refl _) hbb
  · have Hte := Lib.hid (teach_f1 (k := kx) (p := px) hq.out)
    go_wp2_with fail
    go_ret2
    exact retPls_of (teachF_f Hte.out) (Ow.out.below hb2) (fresh_mono f1 (Nat.le_refl _) hb2.size) (Nat.le_refl _) (bl_trans hb1 hb2)
end Go.Proofs.Ytkejgogheonakaa
