/- The drawing of a theatre with acts; what acts keep. Written by a program (gen_w11.py). -/
import Derived.Deep.DeepCutAuto
import Derived.Test.YtdhmhgjjppeodaaGreatDoorBdY7x11
import Derived.Test.YtdhmhgjjppeodaaGreatDoorBdM5x6
namespace Go.Proofs.YtdhmhgjjppeodaaGreatDoor
open Go.RowKit
def DrawnActs (w : World) (e : Ending) (w' : World) : Prop :=
 ∃ (n m : Int) (cs : List RCross) (pl : List RPl) (ds : List Int) (x1 x2 x3 v : Value) (acts : List RAct), e = .returned (.tuple #[.agg #[.int .i64 n, x1, x2, x3, .int .i64 m], v]) ∧ RdTheatre w' x1 x2 x3 cs pl ds ∧ RdL cAct 3 w' v acts ∧ theatreB n m cs pl ds = true ∧ acts.length ≤ 13 ∧ (∀ a ∈ acts, actB a.1 a.2.1 a.2.2 = true) ∧ Below w.heap.size w w'
theorem act13da {a : Act} (h : a.tmps.size = 13) (hd : a.defers = []) : ∃ x0 x1 x2 x3 x4 x5 x6 x7 x8 x9 x10 x11 x12 : Value, a = ⟨#[x0, x1, x2, x3, x4, x5, x6, x7, x8, x9, x10, x11, x12], []⟩ := by
 obtain ⟨⟨l⟩, d⟩ := a
 subst hd
 match l, h with
 | [x0, x1, x2, x3, x4, x5, x6, x7, x8, x9, x10, x11, x12], _ => exact ⟨x0, x1, x2, x3, x4, x5, x6, x7, x8, x9, x10, x11, x12, rfl⟩
def rdaP (n m : Int) (A1 A2 A3 : Option Addr) (cl pln dl n1 n2 n3 g gt : Nat) (i : Nat) (v : Value) (_ : Nat → Nat) (w : World) : Prop :=
 match i with
 | 0 => v = .agg #[.int .i64 n, .slice A1 cl n1, .slice A2 pln n2, .slice A3 dl n3, .int .i64 m]
 | 1 => v = .pointer (some ⟨g, 0, none⟩)
 | 2 => ∃ (A5 : Option Addr) (n5 : Nat) (acts : List RAct), v = .slice A5 acts.length n5 ∧ w.ownsRow gt 90 3 (.slice A5 acts.length n5) acts.length (acts.flatMap cAct) ∧ acts.length ≤ 13 ∧ ∀ a ∈ acts, actB a.1 a.2.1 a.2.2 = true
 | _ => True
def rdaNeed (k : Nat) : List Nat := if k = 2 then [1] else []
def rdaBef (k : Nat) : List Nat := if k = 2 then [1] else []
def rdaR (k : Nat) (_ : Nat → Nat) (w w' : World) : Prop := k = 2 ∨  Below w.heap.size w w'
set_option maxHeartbeats 8000000 in
set_option maxRecDepth 100000 in
theorem drawActs_any (A : Option Addr) (c : Nat) (bs : List Int) (w : World) (h : RdL cU8 1 w (.slice A bs.length c) bs) (hby : ∀ x ∈ bs, 0 ≤ x ∧ x ≤ 255) (hlen : bs.length ≤ 1048576) :
  Calls Tryz.prog 9 #[.slice A bs.length c] w (DrawnActs w) := by
 go_enter Tryz.func9, Tryz.ntmps9
 go_upto_region 1 with (fail)
 have lr0 : Loc (w.alloc (.cells #[.int .i64 0, .slice none 0 0, .slice none 0 0, .slice none 0 0, .int .i64 0] 30)) w.heap.size [.int .i64 0, .slice none 0 0, .slice none 0 0, .slice none 0 0, .int .i64 0] := Loc.new w #[.int .i64 0, .slice none 0 0, .slice none 0 0, .slice none 0 0, .int .i64 0] 30
 have hal0 : Below w.heap.size w (w.alloc (.cells #[.int .i64 0, .slice none 0 0, .slice none 0 0, .slice none 0 0, .int .i64 0] 30)) := (Below.refl _ _).alloc (Nat.le_refl _) _
 have hlr : w.heap.size + 1 ≤ (w.alloc (.cells #[.int .i64 0, .slice none 0 0, .slice none 0 0, .slice none 0 0, .int .i64 0] 30)).heap.size := by simp
 obtain ⟨rb, hrb⟩ : ∃ rb, w.heap.size = rb := ⟨_, rfl⟩
 have hwrb : w.heap.size ≤ rb := by omega
 rw [hrb] at hlr
 have hV := h.below hal0
 generalize w.alloc (.cells #[.int .i64 0, .slice none 0 0, .slice none 0 0, .slice none 0 0, .int .i64 0] 30) = V at *
 (try rw [hrb])
 rw [hrb] at lr0
 clear hrb
 go_wp2_with fail
 refine (l01New_any A c bs V hV hby hlen).mono ?_
 rintro e w1 ⟨g, rfl, hc1⟩
 have hgV := hc1.base
 have lr1 := lr0.below hc1.below
 go_wp2_with fail
 refine (l39Theatre_any V w1 g A c bs hc1).mono ?_
 rintro e w2 ⟨n, m, cs, pl, ds, x1, x2, x3, S, rfl, ow, fr, hth, hc2, hch2⟩
 obtain ⟨⟨A1, n1, rfl⟩, ⟨A2, n2, rfl⟩, ⟨A3, n3, rfl⟩⟩ := ow.rd.forms
 have lr2 := lr1.chg hch2 (by simp; omega)
 have HT := Lib.hid hth
 have hz1 := hc1.below.size
 have hg1 := hc1.lt
 have hb2 : Below w.heap.size w w2 := bl_trans hal0 hc2.below
 have hz2 := hch2.size
 clear hth lr0 lr1 hc1
 go_upto_region 3 with (fail)
 have halx : Below w2.heap.size w2 (w2.alloc (.cells #[.int .i64 n, .slice A1 cs.length n1, .slice A2 pl.length n2, .slice A3 ds.length n3, .int .i64 m] 30)) := (Below.refl _ _).alloc (Nat.le_refl _) _
 have Lt : Loc (w2.alloc (.cells #[.int .i64 n, .slice A1 cs.length n1, .slice A2 pl.length n2, .slice A3 ds.length n3, .int .i64 m] 30)) w2.heap.size [.int .i64 n, .slice A1 cs.length n1, .slice A2 pl.length n2, .slice A3 ds.length n3, .int .i64 m] := Loc.new w2 #[.int .i64 n, .slice A1 cs.length n1, .slice A2 pl.length n2, .slice A3 ds.length n3, .int .i64 m] 30
 have lr3 := lr2.below halx
 have ow3 := ow.below halx
 have hc3 := hc2.keep halx
 have hb3 : Below w.heap.size w (w2.alloc (.cells #[.int .i64 n, .slice A1 cs.length n1, .slice A2 pl.length n2, .slice A3 ds.length n3, .int .i64 m] 30)) := bl_trans hb2 halx
 obtain ⟨gt, hgt⟩ : ∃ b, w2.heap.size = b := ⟨_, rfl⟩
 have hgtlt : g < gt := by omega
 have hrbgt : rb < gt := by omega
 have hSgt : Hid (∀ b ∈ S, w1.heap.size ≤ b ∧ b < gt) := fun b hb => by have := fr.2 b hb; omega
 rw [hgt] at Lt
 have hlt3 : gt < (w2.alloc (.cells #[.int .i64 n, .slice A1 cs.length n1, .slice A2 pl.length n2, .slice A3 ds.length n3, .int .i64 m] 30)).heap.size := by simp; omega
 generalize w2.alloc (.cells #[.int .i64 n, .slice A1 cs.length n1, .slice A2 pl.length n2, .slice A3 ds.length n3, .int .i64 m] 30) = W at *
 (try rw [hgt])
 clear halx lr2 ow hc2 hb2 hgt
 have t0 := (Lt 0 _ rfl).1
 have t1 := (Lt 1 _ rfl).1
 have t2 := (Lt 2 _ rfl).1
 have t3 := (Lt 3 _ rfl).1
 have t4 := (Lt 4 _ rfl).1
 have HSg : Hid (∀ b ∈ S, b ≠ g ∧ b ≠ rb) := fun b hb => by have := hSgt.out b hb; omega
 clear t0 t1 t2 t3 t4
 go_upto_region 3 with (fail)
 have hdr : Below W.heap.size W W.drew := (Below.refl _ _).drew
 refine region_state (n := 13) 3 (by kernel_rfl) rfl (by kernel_rfl) rdaBef rdaNeed [0, 2] (by kernel_rfl) rdaR (fun (_ : Nat → Bool) (W : World) => Cur V W g A c bs ∧ Loc W gt [.int .i64 n, .slice A1 cs.length n1, .slice A2 pl.length n2, .slice A3 ds.length n3, .int .i64 m] ∧ Loc W rb [.int .i64 0, .slice none 0 0, .slice none 0 0, .slice none 0 0, .int .i64 0] ∧ OwTheatre W S (.slice A1 cs.length n1) (.slice A2 pl.length n2) (.slice A3 ds.length n3) cs pl ds ∧ Below w.heap.size w W ∧ gt < W.heap.size) (fun _ => 0) (rdaP n m A1 A2 A3 cs.length pl.length ds.length n1 n2 n3 g gt) (⟨hc3.keep hdr, Lt.below hdr, lr3.below hdr, ow3.below hdr, bl_trans hb3 hdr, by have := hdr.size; omega⟩) ?_ ?_ ?_
 ·intro i k v gh gh' w1 w2 hal hp hJ hR hg
  match i, hp, hal with
  | 0, hp, _ => exact hp
  | 1, hp, _ => exact hp
  | 2, ho, hal =>
   rcases hR with rfl | hb
   ·exact absurd hal (by decide)
   ·obtain ⟨A5, n5, acts, h1, h2, h3⟩ := ho; exact ⟨A5, n5, acts, h1, own_below h2 hb, h3⟩
  | _ + 3, _, _ => trivial
 ·refine ⟨?_, ?_, ?_, trivial⟩
  all_goals
   intro a gh wr d hag hdi hcl hJ hd
   obtain ⟨x0, x1, x2, x3, x4, x5, x6, x7, x8, x9, x10, x11, x12, rfl⟩ := act13da hag.size hag.defers
   have ag4 : x4 = .pointer (some ⟨g, 0, none⟩) := hag.kept 4 (by kernel_rfl)
   have ag5 : x5 = .pointer (some ⟨gt, 0, none⟩) := hag.kept 5 (by kernel_rfl)
   clear hag
   subst ag4 ag5
  ·have t0 := (hJ.2.1 0 _ rfl).1
   have t1 := (hJ.2.1 1 _ rfl).1
   have t2 := (hJ.2.1 2 _ rfl).1
   have t3 := (hJ.2.1 3 _ rfl).1
   have t4 := (hJ.2.1 4 _ rfl).1
   go_wp2_with fail
   exact ⟨rfl, _, rfl, rfl, hJ, .inr (Below.refl _ _)⟩
  ·go_wp2_with fail
   exact ⟨rfl, _, rfl, rfl, hJ, .inr (Below.refl _ _)⟩
  ·have e1 : x11 = .pointer (some ⟨g, 0, none⟩) := hd 1 (by kernel_rfl) _ rfl
   subst e1
   obtain ⟨hJ1, hJ2, hJ3, hJ4, hJ5, hJ6⟩ := hJ
   go_wp2_with fail
   refine (l39List_any V wr g A c bs hJ1).mono ?_
   rintro e w5 ⟨va, acts, rfl, owna, hal13, hacts, hc5, hch5⟩
   obtain ⟨A5, n5, rfl, _, _⟩ := (RdS.of_own owna).form
   have hz5 := hch5.size
   go_wp2_with fail
   exact ⟨rfl, _, rfl, ⟨A5, n5, acts, rfl, own_mono owna (by omega), hal13, hacts⟩, ⟨hc5, hJ2.chg hch5 (by simp; omega), hJ3.chg hch5 (by simp; omega), hJ4.chg hch5 (fun b hb hb' => by have := (HSg.out b hb); simp at hb'; omega), Below.chg hJ5 hch5 hJ5.size (by simp; omega), by omega⟩, .inl rfl⟩
 ·intro a gh wr d hag hall hJ hd
  obtain ⟨x0, x1, x2, x3, x4, x5, x6, x7, x8, x9, x10, x11, x12, rfl⟩ := act13da hag.size hag.defers
  have ag2 : x2 = .pointer (some ⟨rb, 0, none⟩) := hag.kept 2 (by kernel_rfl)
  have ag4 : x4 = .pointer (some ⟨g, 0, none⟩) := hag.kept 4 (by kernel_rfl)
  have ag5 : x5 = .pointer (some ⟨gt, 0, none⟩) := hag.kept 5 (by kernel_rfl)
  clear hag
  subst ag2 ag4 ag5
  have e0 : x10 = .agg #[.int .i64 n, .slice A1 cs.length n1, .slice A2 pl.length n2, .slice A3 ds.length n3, .int .i64 m] := hd 0 (by kernel_rfl) _ rfl
  obtain ⟨A5, n5, acts, e2, hra, h13, hacts⟩ : ∃ (A5 : Option Addr) (n5 : Nat) (acts : List RAct), x12 = .slice A5 acts.length n5 ∧ wr.ownsRow gt 90 3 (.slice A5 acts.length n5) acts.length (acts.flatMap cAct) ∧ acts.length ≤ 13 ∧ ∀ a ∈ acts, actB a.1 a.2.1 a.2.2 = true := hd 2 (by kernel_rfl) _ rfl
  subst e0 e2
  obtain ⟨hJ1, hJ2, hJ3, hJ4, hJ5, hJ6⟩ := hJ
  have HACT := Lib.hid hacts
  have HRA := Lib.hid hra
  clear hd hall hacts hra
  have r0 := (hJ3 0 _ rfl).1
  have r1 := (hJ3 1 _ rfl).1
  have r2 := (hJ3 2 _ rfl).1
  have r3 := (hJ3 3 _ rfl).1
  have r4 := (hJ3 4 _ rfl).1
  have s0 := (hJ3 0 _ rfl).2
  have s1 := (hJ3 1 _ rfl).2
  have s2 := (hJ3 2 _ rfl).2
  have s3 := (hJ3 3 _ rfl).2
  have s4 := (hJ3 4 _ rfl).2
  change wpList _ _ _ [_, _] _ _
  go_wp2_with fail
  have hch9 : Chg [rb] wr (((((wr.setCell ⟨rb, 0, none⟩ (.int .i64 n)).setCell ⟨rb, 1, none⟩ (.slice A1 cs.length n1)).setCell ⟨rb, 2, none⟩ (.slice A2 pl.length n2)).setCell ⟨rb, 3, none⟩ (.slice A3 ds.length n3)).setCell ⟨rb, 4, none⟩ (.int .i64 m)) := by repeat' (with_reducible first | exact Chg.refl _ _ | refine qC ?_)
  exact bodyPost_ret (v := .tuple #[.agg #[.int .i64 n, .slice A1 cs.length n1, .slice A2 pl.length n2, .slice A3 ds.length n3, .int .i64 m], .slice A5 acts.length n5]) (by simp [results, Tryz.results9, go_sem, *]) rfl ⟨n, m, cs, pl, ds, _, _, _, _, acts, rfl, (hJ4.chg hch9 (fun b hb hb' => by have := HSg.out b hb; simp at hb'; omega)).rd, RdS.of_own (own_chg HRA.out hch9 (fun b hb hb' => by have := (HRA.out.lt b (by simpa using hb)).1; simp at hb'; omega)), HT.out, h13, HACT.out, Below.chg hJ5 hch9 hJ5.size (by simp; omega)⟩
end Go.Proofs.YtdhmhgjjppeodaaGreatDoor
