/- Several texts in one: Contracts: TeachPuppet of the program; the words for a player that is changed. Contracts: TeachPuppet of the reference. Written by a program (gen_t5.py). Contracts: TeachPlayer. Written by a program (gen_k15.py). The drawing of crossings and of players. Written by a program (gen_w7.py). The drawing of seasons: ascending days; as many shows as possible. Castings in plain words: players who know a puppet and have a free hand; why a company does not play. No program in sight. Crossings in plain words: full turns, even twists at home, unwinding leaves none; reduced crossings lead to the same. No program in sight. Contracts: the exchanges that sort, the way home, of the reference. The state of the search for castings: boxes, the cast so far, the hands that are free. Plain words beside. Castings of the program: the closure that is called with a casting, the search, FirstCasting. Written by a program (gen_l1.py). -/
import Derived.Deep.DeepCutAuto
import Derived.BigQuiet
import Derived.Deep.QuietTactic
import Derived.IntWalk
import Derived.Test.YtlhdeojkpmpecaaGreatBdB3x10
import Derived.Test.YtlhdeojkpmpecaaGreatBdK1x7
import Derived.Test.YtlhdeojkpmpecaaGreatBdK3x9
import Derived.Test.YtlhdeojkpmpecaaGreatBdCPControlx2
import Derived.Test.YtlhdeojkpmpecaaGreatBdM5x6
import Derived.Test.YtlhdeojkpmpecaaGreatBdW1x3
import Derived.Test.YtlhdeojkpmpecaaGreatBdI7x14
import Derived.Test.YtlhdeojkpmpecaaGreatU3
import Derived.Test.YtlhdeojkpmpecaaGreatY2
import Derived.Test.YtlhdeojkpmpecaaGreatKC
import Derived.Test.YtlhdeojkpmpecaaGreatBdM7x3
namespace Go.Proofs.YtlhdeojkpmpecaaGreat
open Go.RowKit
theorem knows_idx (r : List Int) (x : Int) : knowsB (r, 0) x = true ↔ 0 ≤ idxF r x := by
 unfold knowsB
 rw [List.any_eq_true]
 constructor
 ·rintro ⟨y, hy, e⟩
  have := of_decide_eq_true e
  subst this
  rw [idxF_mem hy]; omega
 ·intro h
  apply Classical.byContradiction
  intro hno
  have : idxF r x = -1 := idxF_none (List.all_eq_true.2 (fun y hy => neB_t (fun e => hno ⟨y, hy, decide_eq_true e⟩)))
  omega
theorem knows_fst (p : RPl) (x : Int) : knowsB p x = knowsB (p.1, 0) x := rfl
theorem plBlocks_app (a b : List (Value × Int)) : plBlocks (a ++ b) = plBlocks a ++ plBlocks b := by unfold plBlocks blocksOf; rw [List.map_append, List.flatMap_append]
theorem plBlocks_cons (p : Value × Int) (b : List (Value × Int)) : plBlocks (p :: b) = p.1.ownBlock.toList ++ plBlocks b := by unfold plBlocks blocksOf; rw [List.map_cons, List.flatMap_cons]
theorem plBlocks_split {vs : List (Value × Int)} {k : Nat} (hk : k < vs.length) : plBlocks vs = plBlocks (vs.take k) ++ (vs[k].1.ownBlock.toList ++ plBlocks (vs.drop (k + 1))) := by
 rw [← plBlocks_cons, ← plBlocks_app, ← List.drop_eq_getElem_cons hk, List.take_append_drop]
theorem plBlocks_set {vs : List (Value × Int)} {k : Nat} (p : Value × Int) (hk : k < vs.length) : plBlocks (vs.set k p) = plBlocks (vs.take k) ++ (p.1.ownBlock.toList ++ plBlocks (vs.drop (k + 1))) := by
 rw [← plBlocks_cons, ← plBlocks_app, List.set_eq_take_append_cons_drop, if_pos hk]
theorem pls_set {w : World} {B : Nat} {vs : List (Value × Int)} {ll : List RPl} {g c : Nat} {u : Value} {r : List Int} {Sk : List Nat} {k : Nat} (hl : vs.length = ll.length)
  (hown : w.ownsRow 0 105 2 (.slice (some ⟨g, 0, none⟩) vs.length c) vs.length (vs.flatMap cPl)) (hrows : PlsOwn w vs ll) (hf : Fresh B w (g :: plBlocks vs)) (hk : OwL 3 cInt 1 w Sk u r) (hfk : Fresh B w Sk)
  (hd : ∀ b ∈ g :: plBlocks vs, b ∉ Sk) (hkl : k < ll.length) :
  OwPls (w.setCell ⟨g, k * 2, none⟩ u) (g :: plBlocks (vs.set k (u, (ll[k]).2))) (.slice (some ⟨g, 0, none⟩) vs.length c) (ll.set k (r, (ll[k]).2)) ∧ Fresh B (w.setCell ⟨g, k * 2, none⟩ u) (g :: plBlocks (vs.set k (u, (ll[k]).2))) := by
 have hkv : k < vs.length := by omega
 have hch : Chg [g] w (w.setCell ⟨g, k * 2, none⟩ u) := chg_set (Chg.refl _ _) (by simp)
 have hSk := hk.2
 subst hSk
 obtain ⟨e2, _⟩ := hrows k vs[k] ll[k] (List.getElem?_eq_getElem hkv) (List.getElem?_eq_getElem hkl)
 have hnd := List.nodup_cons.1 hf.1
 have hsz := hch.size
 refine ⟨⟨vs.set k (u, (ll[k]).2), by simp [hl], ?_, ?_, ?_⟩, ?_, ?_⟩
 ·have h1 := (hown.stored (k * 2) u).1
  have h2 := flat_set (f := cPl) (size := 2) cPl_len vs k hkv 0 (by omega) u (u, (ll[k]).2) (by rw [← e2]; rfl)
  rw [Nat.add_zero] at h2
  rw [h2] at h1
  rw [List.length_set]
  exact h1
 ·intro i p r' hp hr'
  by_cases hi : k = i
  ·subst hi
   rw [List.getElem?_set_self hkv] at hp
   rw [List.getElem?_set_self hkl] at hr'
   cases hp; cases hr'
   exact ⟨rfl, own_chg hk.1 hch (fun b hb hb' => by simp at hb'; subst hb'; exact hd b List.mem_cons_self hb)⟩
  ·rw [List.getElem?_set_ne hi] at hp
   rw [List.getElem?_set_ne hi] at hr'
   obtain ⟨h1, h2⟩ := hrows i p r' hp hr'
   exact ⟨h1, own_chg h2 hch (fun b hb hb' => by simp at hb'; subst hb'; exact hnd.1 (mem_plBlocks hp b hb))⟩
 ·simp [Value.ownBlock]
 ·rw [plBlocks_set _ hkv]
  rw [plBlocks_split hkv] at hnd hd
  obtain ⟨n1, n2, d1, d2⟩ := nodup2 hnd.2
  obtain ⟨n3, n4, d3, d4⟩ := nodup2 n2
  rw [List.nodup_cons]
  refine ⟨fun hm => ?_, List.nodup_append.2 ⟨n1, List.nodup_append.2 ⟨hfk.1, n4, fun b hb b' hb' e => ?_⟩, fun b hb b' hb' e => ?_⟩⟩
  ·rcases List.mem_append.1 hm with hm | hm
   ·exact hnd.1 (List.mem_append_left _ hm)
   ·rcases List.mem_append.1 hm with hm | hm
    ·exact hd g List.mem_cons_self hm
    ·exact hnd.1 (List.mem_append_right _ (List.mem_append_right _ hm))
  ·subst e
   exact hd b (List.mem_cons_of_mem _ (List.mem_append_right _ (List.mem_append_right _ hb'))) hb
  ·subst e
   rcases List.mem_append.1 hb' with hb' | hb'
   ·exact hd b (List.mem_cons_of_mem _ (List.mem_append_left _ hb)) hb'
   ·exact d1 b hb (List.mem_append_right _ hb')
 ·intro b hb
  rw [plBlocks_set _ hkv] at hb
  have hsub : b ∈ g :: plBlocks vs ∨ b ∈ u.ownBlock.toList := by
   rw [plBlocks_split hkv]
   rcases List.mem_cons.1 hb with rfl | hb
   ·exact .inl List.mem_cons_self
   ·rcases List.mem_append.1 hb with hb | hb
    ·exact .inl (List.mem_cons_of_mem _ (List.mem_append_left _ hb))
    ·rcases List.mem_append.1 hb with hb | hb
     ·exact .inr hb
     ·exact .inl (List.mem_cons_of_mem _ (List.mem_append_right _ (List.mem_append_right _ hb)))
  rcases hsub with h | h
  ·have := hf.2 b h; omega
  ·have := hfk.2 b h; omega
theorem pls_set' {w : World} {B n : Nat} {vs : List (Value × Int)} {ll : List RPl} {g c : Nat} {u : Value} {r : List Int} {Sk : List Nat} {k : Nat} (hn : n = vs.length) (hl : vs.length = ll.length)
  (hown : w.ownsRow 0 105 2 (.slice (some ⟨g, 0, none⟩) n c) n (vs.flatMap cPl)) (hrows : PlsOwn w vs ll) (hf : Fresh B w (g :: plBlocks vs)) (hk : OwL 3 cInt 1 w Sk u r) (hfk : Fresh B w Sk)
  (hd : ∀ b ∈ g :: plBlocks vs, b ∉ Sk) (hkl : k < ll.length) :
  OwPls (w.setCell ⟨g, k * 2, none⟩ u) (g :: plBlocks (vs.set k (u, (ll[k]).2))) (.slice (some ⟨g, 0, none⟩) n c) (ll.set k (r, (ll[k]).2)) ∧ Fresh B (w.setCell ⟨g, k * 2, none⟩ u) (g :: plBlocks (vs.set k (u, (ll[k]).2))) := by
 subst hn
 exact pls_set hl hown hrows hf hk hfk hd hkl
def RetPls (r : List RPl × Bool) (w : World) (e : Ending) (w' : World) : Prop := ∃ v S, e = .returned (.tuple #[v, .bool r.2]) ∧ OwPls w' S v r.1 ∧ Fresh w.heap.size w' S ∧ Below w.heap.size w w'
theorem retPls_of {r : List RPl × Bool} {l : List RPl} {b : Bool} {w w' : World} {v : Value} {S : List Nat} {B : Nat} (hr : r = (l, b)) (hown : OwPls w' S v l) (hf : Fresh B w' S) (hB : w.heap.size ≤ B) (hb : Below w.heap.size w w') : RetPls r w (.returned (.tuple #[v, .bool b])) w' := by
 subst hr
 exact ⟨v, S, rfl, hown, fresh_mono hf hB (Nat.le_refl _), hb⟩
theorem teach_len (pl : List RPl) (k p : Int) : (teachF pl k p).1.length = pl.length := by unfold teachF; split <;> simp
set_option maxHeartbeats 4000000 in
set_option maxRecDepth 100000 in
theorem implTeachPuppet_any (v : Value) (pl : List RPl) (k p : Int) (w : World) (h : RdPls w v pl) (hl : plsTot pl ≤ 1048576) :
  Calls Tryz.prog 87 #[v, .int .i64 k, .int .i64 p] w (RetPls (teachF pl k p) w) := by
 have h0 := h
 obtain ⟨A, c, rfl, h1, h2⟩ := h.form
 have hpl : pl.length ≤ 1048576 := by unfold plsTot at hl; omega
 go_enter Tryz.func87, Tryz.ntmps87
 go_wp2_with fail
 refine (copyPlayers_any _ pl _ h0 hl).mono ?_
 rintro e w1 ⟨v1, S, rfl, ow, f1, hb1⟩
 have h3 := h0.below hb1
 obtain ⟨A1, c1, rfl, hlc1, _⟩ := ow.rd.form
 have Ow := Lib.hid ow
 clear ow h
 go_wp2_with fail
 refine twoB (implPlayersOk_any _ pl _ h3) (fun w2 hq hb2 => ?_) (fun w2 hq hb2 => ?_)
 ·have hbb := bl_trans hb1 hb2
  have h4 := h3.below hb2
  have f2 := fresh_mono f1 (Nat.le_refl _) hb2.size
  have ow2 := Lib.hid (Ow.out.below hb2)
  clear h3 f1 Ow hb1 hb2
  go_wp2_with fail
  refine two (within_any _ _ _ _) (fun hk => ?_) (fun hk => ?_)
  ·have hkb := inB_iff.1 hk.out
   obtain ⟨n, rfl⟩ := Int.eq_ofNat_of_zero_le hkb.1
   have hn : n < pl.length := by omega
   go_wp2_with fail
   refine two (within_any _ _ _ _) (fun hp => ?_) (fun hp => ?_)
   ·have hpb := inB_iff.1 hp.out
    obtain ⟨g, off, u, rfl, hg, k0, k1, hru⟩ := h4.cell hn
    have htv := teach_v (p := p) hn hq.out hk.out hp.out
    have hkn := knows_idx pl[n].1 p
    have hsr : pl[n].1.length ≤ 16777216 := by
     have hqq := hq.out
     rw [playersB, Bool.and_eq_true, List.all_eq_true] at hqq
     have := hqq.1 _ (List.getElem_mem hn)
     rw [playerB, Bool.and_eq_true] at this
     have := strict_len (m := 6) this.1
     omega
    obtain ⟨Au, cu, rfl, _, _⟩ := hru.form
    have hcon := fun (W : World) (hr : RdL cInt 1 W (.slice Au pl[n].1.length cu) pl[n].1) => indexOf_any (.slice Au pl[n].1.length cu) pl[n].1 p W hr
    go_wp2_with fail
    refine (hcon _ hru).mono ?_
    rintro e w3 ⟨rfl, rfl⟩
    by_cases hkk : 0 ≤ idxF pl[n].1 p
    ·have hte : teachB pl n p = false := by rw [htv, knows_fst, hkn.2 hkk]; rfl
     have Hte := Lib.hid hte
     clear htv hkn hte hcon
     generalize idxF pl[n].1 p = ix at *
     go_wp2_with fail
     go_ret2
     exact retPls_of (teachF_f Hte.out) ow2.out f2 (Nat.le_refl _) hbb
    ·have hte : teachB pl n p = true := by
      rw [htv, knows_fst]
      cases e : knowsB (pl[n].1, 0) p
      ·rfl
      ·exact absurd (hkn.1 e) hkk
     have Hte := Lib.hid (teachF_t hn hte)
     have hkk' : idxF pl[n].1 p < 0 := by omega
     clear htv hkn hte hcon
     generalize idxF pl[n].1 p = ix at *
     go_wp2_with fail
     refine (put_any _ pl[n].1 p _ hru hsr).mono ?_
     rintro e w4 ⟨v4, rfl, hown4, hb4⟩
     obtain ⟨vs, hvl, hown, hrows, eS⟩ := ow2.out.below hb4
     have f4 := fresh_mono f2 (Nat.le_refl _) hb4.size
     obtain ⟨g1, cap1, e1⟩ := own_form hown (by omega)
     injection e1 with e11 e12 e13
     subst e11 e13
     rw [← e12] at hown
     have hgs : S = g1 :: plBlocks vs := eS
     have hlow := f2.2
     rw [hgs] at f4 hlow
     have hk4 : OwL 3 cInt 1 w4 v4.ownBlock.toList v4 (putF p pl[n].1) := ⟨own_mono hown4 (Nat.zero_le _), rfl⟩
     have hw2 := hbb.size
     have hf4 : Fresh w.heap.size w4 v4.ownBlock.toList := fresh_mono (fresh_of hown4) hw2 (Nat.le_refl _)
     have hset := pls_set' e12 hvl hown hrows f4 hk4 hf4 (fun b hb hb' => by have := (hlow b hb).2; have := (hown4.lt b (by simpa using hb')).1; omega) hn
     have hxl := hown.1
     obtain ⟨u0, k9⟩ : ∃ u, w4.cell? ⟨g1, n * 2, none⟩ = some u := ⟨_, (hown.cellAt (n * 2) (by omega)).trans (List.getElem?_eq_getElem (by omega))⟩
     have f9 := hown.frozenAt (n * 2)
     have hb9 : Below w.heap.size w (w4.setCell ⟨g1, n * 2, none⟩ v4) := (bl_trans hbb hb4).setCell (by have := (hlow g1 List.mem_cons_self).1; omega) _
     have Hset := Lib.hid hset
     obtain ⟨A4, c4, rfl, _, _⟩ := (RdS.of_own hown4).form
     clear hset hown hrows f4 hk4 hf4 hlow eS hxl hown4 e12 hvl
     go_wp2_with fail
     go_ret2
     exact retPls_of Hte.out Hset.out.1 Hset.out.2 (Nat.le_refl _) hb9
   ·have Hte := Lib.hid (teach_f3 (pl := pl) (k := n) hp.out)
    go_wp2_with fail
    go_ret2
    exact retPls_of (teachF_f Hte.out) ow2.out f2 (Nat.le_refl _) hbb
  ·have Hte := Lib.hid (teach_f2 (p := p) hk.out)
   go_wp2_with fail
   go_ret2
   exact retPls_of (teachF_f Hte.out) ow2.out f2 (Nat.le_refl _) hbb
 ·have Hte := Lib.hid (teach_f1 (k := k) (p := p) hq.out)
  go_wp2_with fail
  go_ret2
  exact retPls_of (teachF_f Hte.out) (Ow.out.below hb2) (fresh_mono f1 (Nat.le_refl _) hb2.size) (Nat.le_refl _) (bl_trans hb1 hb2)
open Go.RowKit
theorem pls_setF {B n : Nat} {vs : List (Value × Int)} {ll : List RPl} {g c k : Nat} (hn : n = vs.length) (hl : vs.length = ll.length) (hkl : k < ll.length) : ∀ (w : World) (u : Value) (r : List Int) (Sk : List Nat),
    w.ownsRow 0 105 2 (.slice (some ⟨g, 0, none⟩) n c) n (vs.flatMap cPl) → PlsOwn w vs ll → Fresh B w (g :: plBlocks vs) → OwL 3 cInt 1 w Sk u r → Fresh B w Sk → (∀ b ∈ g :: plBlocks vs, b ∉ Sk) →
    OwPls (w.setCell ⟨g, k * 2, none⟩ u) (g :: plBlocks (vs.set k (u, (ll[k]).2))) (.slice (some ⟨g, 0, none⟩) n c) (ll.set k (r, (ll[k]).2)) ∧ Fresh B (w.setCell ⟨g, k * 2, none⟩ u) (g :: plBlocks (vs.set k (u, (ll[k]).2))) :=
  fun _ _ _ _ a1 a2 a3 a4 a5 a6 => pls_set' hn hl a1 a2 a3 a4 a5 a6 hkl
set_option maxRecDepth 100000 in
theorem act74tp {a : Act} (h : a.tmps.size = 74) (hd : a.defers = []) : a = ⟨List.toArray (a.tmps.getD 0 undef :: a.tmps.getD 1 undef :: a.tmps.getD 2 undef :: a.tmps.getD 3 undef :: a.tmps.getD 4 undef :: a.tmps.getD 5 undef :: a.tmps.getD 6 undef :: a.tmps.getD 7 undef :: a.tmps.getD 8 undef :: a.tmps.getD 9 undef :: a.tmps.getD 10 undef :: a.tmps.getD 11 undef :: a.tmps.getD 12 undef :: a.tmps.getD 13 undef :: a.tmps.getD 14 undef :: a.tmps.getD 15 undef :: a.tmps.getD 16 undef :: a.tmps.getD 17 undef :: a.tmps.getD 18 undef :: a.tmps.getD 19 undef :: a.tmps.getD 20 undef :: a.tmps.getD 21 undef :: a.tmps.getD 22 undef :: a.tmps.getD 23 undef :: a.tmps.getD 24 undef :: a.tmps.getD 25 undef :: a.tmps.getD 26 undef :: a.tmps.getD 27 undef :: a.tmps.getD 28 undef :: a.tmps.getD 29 undef :: a.tmps.getD 30 undef :: a.tmps.getD 31 undef :: a.tmps.getD 32 undef :: a.tmps.getD 33 undef :: a.tmps.getD 34 undef :: a.tmps.getD 35 undef :: a.tmps.getD 36 undef :: a.tmps.getD 37 undef :: a.tmps.getD 38 undef :: a.tmps.getD 39 undef :: a.tmps.getD 40 undef :: a.tmps.getD 41 undef :: a.tmps.getD 42 undef :: a.tmps.getD 43 undef :: a.tmps.getD 44 undef :: a.tmps.getD 45 undef :: a.tmps.getD 46 undef :: a.tmps.getD 47 undef :: a.tmps.getD 48 undef :: a.tmps.getD 49 undef :: a.tmps.getD 50 undef :: a.tmps.getD 51 undef :: a.tmps.getD 52 undef :: a.tmps.getD 53 undef :: a.tmps.getD 54 undef :: a.tmps.getD 55 undef :: a.tmps.getD 56 undef :: a.tmps.getD 57 undef :: a.tmps.getD 58 undef :: a.tmps.getD 59 undef :: a.tmps.getD 60 undef :: a.tmps.getD 61 undef :: a.tmps.getD 62 undef :: a.tmps.getD 63 undef :: a.tmps.getD 64 undef :: a.tmps.getD 65 undef :: a.tmps.getD 66 undef :: a.tmps.getD 67 undef :: a.tmps.getD 68 undef :: a.tmps.getD 69 undef :: a.tmps.getD 70 undef :: a.tmps.getD 71 undef :: a.tmps.getD 72 undef :: a.tmps.getD 73 undef :: []), []⟩ := act_eq 74 h hd
def tpgP (W : World) (xv : Value) (p m : Nat) (kk : Int) (L1 L2 : List Value) (ov : Value) (pk : Nat) (pa : Value) (i : Nat) (v : Value) (_ : Nat → Nat) (w : World) : Prop :=
  match i with
  | 0 => v = ov
  | 1 => v = .int .i64 pk
  | 2 => ∃ g, v = .slice (some ⟨g, 0, none⟩) 0 0 ∧ w.ownsRow W.heap.size 3 1 v 0 ([])
  | 3 => v = xv
  | 4 => v = .int .i64 p
  | 5 => RdS W 1 v p L1
  | 6 => w.ownsRow W.heap.size 3 1 v p (L1)
  | 7 => v = .int .i64 kk
  | 8 => RdS w 1 v 1 [Value.int .i64 kk]
  | 9 => w.ownsRow W.heap.size 3 1 v (p + 1) (L1 ++ [Value.int .i64 kk])
  | 10 => v = xv
  | 11 => v = .int .i64 p
  | 12 => RdS W 1 v m L2
  | 13 => w.ownsRow W.heap.size 3 1 v (p + 1 + m) ((L1 ++ [Value.int .i64 kk]) ++ L2)
  | 14 => v = pa
  | 15 => v = pa
  | _ => True
def tpgNeed (k : Nat) : List Nat := if k = 5 then [3, 4] else if k = 6 then [2, 5] else if k = 8 then [7] else if k = 9 then [6, 8] else if k = 12 then [10, 11] else if k = 13 then [9, 12] else if k = 14 then [0, 1] else if k = 15 then [14] else []
def tpgBef (k : Nat) : List Nat := if k = 5 then [3, 4] else if k = 6 then [2, 5, 3, 4] else if k = 8 then [7] else if k = 9 then [6, 2, 5, 3, 4, 8, 7] else if k = 12 then [10, 11] else if k = 13 then [9, 6, 2, 5, 3, 4, 8, 7, 12, 10, 11] else if k = 14 then [0, 1] else if k = 15 then [14, 0, 1] else []
def tpgR (k : Nat) (_ : Nat → Nat) (w w' : World) : Prop := k = 9 ∨ k = 13 ∨  Below w.heap.size w w'
set_option maxHeartbeats 8000000 in
set_option maxRecDepth 100000 in
theorem specTeachPuppet_any (v : Value) (pl : List RPl) (kx px : Int) (w : World) (h : RdPls w v pl) (hl : plsTot pl ≤ 1048576) :
    Calls Tryz.prog 111 #[v, .int .i64 kx, .int .i64 px] w (RetPls (teachF pl kx px) w) := by
  have h0 := h
  obtain ⟨A, c, rfl, h1, h2⟩ := h.form
  obtain ⟨iI, hiI, hzI0, hzI1, hzI2⟩ := info_parts infoInt
  have hpl : pl.length ≤ 1048576 := by unfold plsTot at hl; omega
  go_enter Tryz.func111, Tryz.ntmps111
  go_wp2_with fail
  refine (l17Copy_any _ pl _ h0 hl).mono ?_
  rintro e w1 ⟨v1, S, rfl, ow, f1, hb1⟩
  have h3 := h0.below hb1
  obtain ⟨A1, c1, rfl, hlc1, _⟩ := ow.rd.form
  have Ow := Lib.hid ow
  clear ow h
  go_wp2_with fail
  refine twoB (specPlayersOk_any _ pl _ h3) (fun w2 hq hb2 => ?_) (fun w2 hq hb2 => ?_)
  · have hbb := bl_trans hb1 hb2
    have h4 := h3.below hb2
    have f2 := fresh_mono f1 (Nat.le_refl _) hb2.size
    have ow2 := Lib.hid (Ow.out.below hb2)
    clear h3 f1 Ow hb1 hb2
    go_wp2_with fail
    refine two (l01In_any _ _ _ _) (fun hk => ?_) (fun hk => ?_)
    · have hkb := inB_iff.1 hk.out
      obtain ⟨n, rfl⟩ := Int.eq_ofNat_of_zero_le hkb.1
      have hn : n < pl.length := by omega
      go_wp2_with fail
      refine two (l01In_any _ _ _ _) (fun hp => ?_) (fun hp => ?_)
      · obtain ⟨g, off, u, rfl, hg, k0, k1, hru⟩ := h4.cell hn
        have htv := teach_v (p := px) hn hq.out hk.out hp.out
        have hsr : pl[n].1.length ≤ 16777216 := by
          have hqq := hq.out
          rw [playersB, Bool.and_eq_true, List.all_eq_true] at hqq
          have := hqq.1 _ (List.getElem_mem hn)
          rw [playerB, Bool.and_eq_true] at this
          have := strict_len (m := 6) this.1
          omega
        obtain ⟨Au, cu, rfl, hcu, hcu'⟩ := hru.form
        go_wp2_with fail
        refine twoB (l13Knows_any _ pl[n].1 pl[n].2 px _ hru) (fun w3 hkn hb3 => ?_) (fun w3 hkn hb3 => ?_)
        · have hte : teachB pl n px = false := by rw [htv, show knowsB pl[n] px = true from hkn.out]; rfl
          have Hte := Lib.hid hte
          clear htv hte
          go_wp2_with fail
          go_ret2
          exact retPls_of (teachF_f Hte.out) (ow2.out.below hb3) (fresh_mono f2 (Nat.le_refl _) hb3.size) (Nat.le_refl _) (bl_trans hbb hb3)
        · have hte : teachB pl n px = true := by rw [htv, show knowsB pl[n] px = false from hkn.out]; rfl
          have Hte := Lib.hid (teachF_t hn hte)
          clear htv hte
          have h5 := hru.below hb3
          replace k0 := carry hb3 k0
          replace k1 := carry hb3 k1
          have f3 := fresh_mono f2 (Nat.le_refl _) hb3.size
          have hbb3 := bl_trans hbb hb3
          obtain ⟨vs, hvl, hown, hrows, eS⟩ := ow2.out.below hb3
          obtain ⟨g1, cap1, e1⟩ := own_form hown (by omega)
          injection e1 with e11 e12 e13
          subst e11 e13
          rw [← e12] at hown
          have hgs : S = g1 :: plBlocks vs := eS
          rw [hgs] at f3
          have HR := Lib.hid hrows
          have HV := Lib.hid hvl
          have HN := Lib.hid e12
          have F3 := Lib.hid f3
          have HO := Lib.hid hown
          clear hown hrows hvl e12 f3 eS hgs hb3 hru f2 ow2 hbb
          obtain ⟨r, hr⟩ : ∃ r, pl[n].1 = r := ⟨_, rfl⟩
          obtain ⟨fr, hfr⟩ : ∃ fr, pl[n].2 = fr := ⟨_, rfl⟩
          have Hte' := Hte.out
          have hplset := pls_setF (B := w.heap.size) (n := pl.length) (vs := vs) (ll := pl) (g := g1) (c := c1) (k := n) HN.out HV.out hn
          rw [hr] at h5 k0 hsr hkn Hte' hcu
          rw [hfr] at k1 hkn Hte' hplset
          have Hte2 := Lib.hid Hte'
          have HS := Lib.hid hplset
          clear hr hfr Hte Hte' hplset
          go_wp2_with fail
          go_loop [9] (fun i => ∃ k : Nat, k ≤ r.length ∧ i = .int .i64 k ∧ Hid (∀ j (hj : j < r.length), j < k → r[j] < px)) (fun i => r.length - (intOf i).toNat)
          case atStart => exact ⟨0, Nat.zero_le _, rfl, fun j _ hj => absurd hj (by omega)⟩
          case round =>
            obtain ⟨k, hk, rfl, hall⟩ := hrel
            have hstop : ∀ W : World, RdL cInt 1 W (.slice Au r.length cu) r → (k = r.length ∨ (∃ hk : k < r.length, ¬ r[k] < px)) → atF px r = k := fun _ _ hh => atF_of r k hk hall.out (fun hk' => by rcases hh with h | ⟨_, h⟩; omega; exact h)
            have Hstop := Lib.hid hstop
            clear hstop
            by_cases hlt : k < r.length
            · obtain ⟨gu, ou, rfl, hgu, hcu2⟩ := h5.cell cInt_len (by omega) hlt
              have kk0 := hcu2 0 _ rfl
              simp only [Nat.add_zero, Nat.mul_one] at kk0
              clear hcu2
              by_cases hx : r[k] < px
              · have Hx := Lib.hid hx
                go_wp2_with fail
                go_round
                case rel => exact ⟨k + 1, by omega, by go_num, (fun j hj hjk => by
                  rcases Nat.lt_succ_iff_lt_or_eq.1 hjk with h | rfl
                  · exact hall.out j hj h
                  · exact Hx.out)⟩
                case measure => simp [intOf]; omega
              · have hat := Hstop.out _ h5 (.inr ⟨hlt, hx⟩)
                have hkl : k ≤ r.length := by omega
                obtain ⟨L1, hL1⟩ : ∃ L1, (r.take k).flatMap cInt = L1 := ⟨_, rfl⟩
                obtain ⟨L2, hL2⟩ : ∃ L2, (r.drop k).flatMap cInt = L2 := ⟨_, rfl⟩
                have hone1 : ∀ y ∈ L1, y.oneCell' = true := by rw [← hL1]; exact oneCell_flat cInt_one _
                have hone2 : ∀ y ∈ L2, y.oneCell' = true := by rw [← hL2]; exact oneCell_flat cInt_one _
                have hs1 : RdS w3 1 (.slice (some ⟨gu, ou, none⟩) k cu) k L1 := by rw [← hL1, flatI_take]; exact rdS_take h5 hkl
                have hd2 : RdS w3 1 (.slice (some ⟨gu, ou + k, none⟩) (r.length - k) (cu - k)) (r.length - k) L2 := by rw [← hL2, flatI_drop]; exact rdS_drop h5 hkl
                have hd3 : RdS w3 1 (.slice (some (if k = cu then ⟨gu, ou, none⟩ else ⟨gu, ou + k, none⟩)) (r.length - k) (cu - k)) (r.length - k) L2 := by rw [← hL2, flatI_drop]; exact rdS_dropA h5 hkl
                have hfl := putF_flat px r
                rw [hat, hL1, hL2] at hfl
                have Hfl := Lib.hid hfl
                have Hlen := Lib.hid (putF_len px r)
                clear hfl
                go_upto_region 8 with (fail)
                refine region_state (n := 74) 16 (by kernel_rfl) rfl (by kernel_rfl) tpgBef tpgNeed [13, 15] (by kernel_rfl) tpgR (fun _ w' => Below w3.heap.size w3 w') (fun _ => 0) (tpgP w3 (.slice (some ⟨gu, ou, none⟩) r.length cu) k (r.length - k) px L1 L2 (.slice (some ⟨g1, 0, none⟩) pl.length c1) n (.pointer (some ⟨g1, n * 2, none⟩))) ((Below.refl _ _).drew) ?_ ?_ ?_
                · intro i k v gh gh' w1 w2 hal hp hJ hR hg
                  match i, hp, hal with
                  | 0, hp, _ => exact hp
                  | 1, hp, _ => exact hp
                  | 2, ho, hal =>
                    rcases hR with rfl | rfl | hb
                    · exact absurd hal (by decide)
                    · exact absurd hal (by decide)
                    · obtain ⟨g, h1, h2⟩ := ho; exact ⟨g, h1, own_below h2 hb⟩
                  | 3, hp, _ => exact hp
                  | 4, hp, _ => exact hp
                  | 5, hp, _ => exact hp
                  | 6, ho, hal =>
                    rcases hR with rfl | rfl | hb
                    · exact absurd hal (by decide)
                    · exact absurd hal (by decide)
                    · exact own_below ho hb
                  | 7, hp, _ => exact hp
                  | 8, ho, hal =>
                    rcases hR with rfl | rfl | hb
                    · exact absurd hal (by decide)
                    · exact absurd hal (by decide)
                    · exact RdS.below ho hb
                  | 9, ho, hal =>
                    rcases hR with rfl | rfl | hb
                    · exact absurd hal (by decide)
                    · exact absurd hal (by decide)
                    · exact own_below ho hb
                  | 10, hp, _ => exact hp
                  | 11, hp, _ => exact hp
                  | 12, hp, _ => exact hp
                  | 13, ho, hal =>
                    rcases hR with rfl | rfl | hb
                    · exact absurd hal (by decide)
                    · exact absurd hal (by decide)
                    · exact own_below ho hb
                  | 14, hp, _ => exact hp
                  | 15, hp, _ => exact hp
                  | _ + 16, _, _ => trivial
                · refine ⟨?_, ?_, ?_, ?_, ?_, ?_, ?_, ?_, ?_, ?_, ?_, ?_, ?_, ?_, ?_, ?_, trivial⟩
                  all_goals
                    intro a gh wr d hag hdi hcl hJ hd
                    have ag1 : (a.tmps.getD 1 undef) = .int .i64 (n : Nat) := hag.kept 1 (by kernel_rfl)
                    have ag2 : (a.tmps.getD 2 undef) = .int .i64 px := hag.kept 2 (by kernel_rfl)
                    have ag8 : (a.tmps.getD 8 undef) = .slice (some ⟨g1, 0, none⟩) pl.length c1 := hag.kept 8 (by kernel_rfl)
                    have ag9 : (a.tmps.getD 9 undef) = .int .i64 (k : Nat) := hag.kept 9 (by kernel_rfl)
                    have ag10 : (a.tmps.getD 10 undef) = .slice (some ⟨gu, ou, none⟩) r.length cu := hag.kept 10 (by kernel_rfl)
                  · clear hag
                    go_wp2_with fail
                    exact ⟨rfl, _, rfl, rfl, hJ, .inr (.inr (Below.refl _ _))⟩
                  · clear hag
                    go_wp2_with fail
                    exact ⟨rfl, _, rfl, rfl, hJ, .inr (.inr (Below.refl _ _))⟩
                  · clear hag
                    go_wp2_with fail
                    exact ⟨rfl, _, rfl, ⟨wr.heap.size, rfl, World.ownsRow_made (size := 1) (e := 3) wr #[] 0 hJ.size (by simp [maxLen]) rfl⟩, hJ.alloc hJ.size _, .inr (.inr ((Below.refl _ _).alloc (Nat.le_refl _) _))⟩
                  · clear hag
                    go_wp2_with fail
                    exact ⟨rfl, _, rfl, rfl, hJ, .inr (.inr (Below.refl _ _))⟩
                  · clear hag
                    go_wp2_with fail
                    exact ⟨rfl, _, rfl, rfl, hJ, .inr (.inr (Below.refl _ _))⟩
                  · clear hag
                    have e1 : (a.tmps.getD 60 undef) = .slice (some ⟨gu, ou, none⟩) r.length cu := hd 3 (by kernel_rfl) _ rfl
                    have e2 : (a.tmps.getD 61 undef) = .int .i64 (k) := hd 4 (by kernel_rfl) _ rfl
                    go_wp2_with fail
                    all_goals
                      refine ⟨rfl, _, rfl, ?_, hJ, .inr (.inr (Below.refl _ _))⟩
                      first | exact hs1 | (simp; exact hs1) | (simp at hs1; exact hs1)
                  · rw [act74tp hag.size hag.defers]
                    obtain ⟨g1, e1, og⟩ : ∃ g, (a.tmps.getD 59 undef) = Value.slice (some ⟨g, 0, none⟩) 0 0 ∧ wr.ownsRow w3.heap.size 3 1 (a.tmps.getD 59 undef) 0 ([]) := hd 2 (by kernel_rfl) _ rfl
                    have hs1 : RdS w3 1 (a.tmps.getD 62 undef) (k) L1 := hd 5 (by kernel_rfl) _ rfl
                    clear hag hd
                    generalize a.tmps.getD 59 undef = x59 at *
                    generalize a.tmps.getD 62 undef = x62 at *
                    subst e1
                    go_wp2_with (at_builtin; refine wpList_append_empty _ rfl (.tmp 59) (.tmp 62) _ rfl w3.heap.size 3 iI _ 1 8 Tryz.underlying26 hiI hzI0 hzI1 hzI2 rfl (by omega) g1 rfl og _ (k) L1 rfl (hs1.below hJ) hone1 (by simp [maxLen] <;> omega) (by omega) hJ.size ?_; intro v3 w3 own3 b3 at3)
                    exact ⟨rfl, _, rfl, own3, hJ.trans (b3.mono hJ.size), .inr (.inr (b3))⟩
                  · clear hag
                    go_wp2_with fail
                    exact ⟨rfl, _, rfl, rfl, hJ, .inr (.inr (Below.refl _ _))⟩
                  · rw [act74tp hag.size hag.defers]
                    have e1 : (a.tmps.getD 64 undef) = .int .i64 px := hd 7 (by kernel_rfl) _ rfl
                    clear hag hd
                    generalize a.tmps.getD 64 undef = x64 at *
                    subst e1
                    go_wp2_with fail
                    exact ⟨rfl, _, rfl, rdS_new wr #[.int .i64 px] _ 1 1 rfl (by simp [maxLen]), hJ.alloc hJ.size _, .inr (.inr ((Below.refl _ _).alloc (Nat.le_refl _) _))⟩
                  · rw [act74tp hag.size hag.defers]
                    have og : wr.ownsRow w3.heap.size 3 1 (a.tmps.getD 63 undef) (k) (L1) := hd 6 (by kernel_rfl) _ rfl
                    have ok : RdS wr 1 (a.tmps.getD 65 undef) 1 [Value.int .i64 px] := hd 8 (by kernel_rfl) _ rfl
                    clear hag hd
                    generalize a.tmps.getD 63 undef = x63 at *
                    generalize a.tmps.getD 65 undef = x65 at *
                    obtain ⟨Aa, ca, e0, _, _⟩ := (RdS.of_own og).form
                    go_wp2_with (at_builtin; refine wpList_appendB _ rfl (.tmp 63) (.tmp 65) _ rfl w3.heap.size 3 iI _ 1 8 Tryz.underlying26 hiI hzI0 hzI1 hzI2 rfl (by omega) x63 (k) (L1) rfl og _ 1 _ rfl ok (by simp [Value.oneCell']) (by simp [maxLen] <;> omega) (by omega) hJ.size ?_; intro v3 w3 own3 gr3 at3)
                    exact ⟨rfl, _, rfl, own3, hJ.trans (below_own og gr3 hJ.size), .inl rfl⟩
                  · clear hag
                    go_wp2_with fail
                    exact ⟨rfl, _, rfl, rfl, hJ, .inr (.inr (Below.refl _ _))⟩
                  · clear hag
                    go_wp2_with fail
                    exact ⟨rfl, _, rfl, rfl, hJ, .inr (.inr (Below.refl _ _))⟩
                  · clear hag
                    have e1 : (a.tmps.getD 67 undef) = .slice (some ⟨gu, ou, none⟩) r.length cu := hd 10 (by kernel_rfl) _ rfl
                    have e2 : (a.tmps.getD 68 undef) = .int .i64 (k) := hd 11 (by kernel_rfl) _ rfl
                    go_wp2_with fail
                    all_goals
                      refine ⟨rfl, _, rfl, ?_, hJ, .inr (.inr (Below.refl _ _))⟩
                      first | exact hd2 | (rw [if_pos (show k = cu by omega), show cu - k = 0 by omega] at hd3; exact hd3) | (simp at hd3 ⊢; exact hd3)
                  · rw [act74tp hag.size hag.defers]
                    have og : wr.ownsRow w3.heap.size 3 1 (a.tmps.getD 66 undef) (k + 1) (L1 ++ [Value.int .i64 px]) := hd 9 (by kernel_rfl) _ rfl
                    have hs2 : RdS w3 1 (a.tmps.getD 69 undef) (r.length - k) L2 := hd 12 (by kernel_rfl) _ rfl
                    clear hag hd
                    generalize a.tmps.getD 66 undef = x66 at *
                    generalize a.tmps.getD 69 undef = x69 at *
                    obtain ⟨Aa, ca, e0, _, _⟩ := (RdS.of_own og).form
                    go_wp2_with (at_builtin; refine wpList_appendB _ rfl (.tmp 66) (.tmp 69) _ rfl w3.heap.size 3 iI _ 1 8 Tryz.underlying26 hiI hzI0 hzI1 hzI2 rfl (by omega) x66 (k + 1) (L1 ++ [Value.int .i64 px]) rfl og _ (r.length - k) _ rfl (hs2.below hJ) hone2 (by simp [maxLen] <;> omega) (by omega) hJ.size ?_; intro v3 w3 own3 gr3 at3)
                    exact ⟨rfl, _, rfl, own3, hJ.trans (below_own og gr3 hJ.size), .inr (.inl rfl)⟩
                  · clear hag
                    have e1 : (a.tmps.getD 57 undef) = .slice (some ⟨g1, 0, none⟩) pl.length c1 := hd 0 (by kernel_rfl) _ rfl
                    have e2 : (a.tmps.getD 58 undef) = .int .i64 (n : Nat) := hd 1 (by kernel_rfl) _ rfl
                    go_wp2_with fail
                    exact ⟨rfl, _, rfl, by simp [tpgP], hJ, .inr (.inr (Below.refl _ _))⟩
                  · clear hag
                    have e1 : (a.tmps.getD 71 undef) = .pointer (some ⟨g1, n * 2, none⟩) := hd 14 (by kernel_rfl) _ rfl
                    go_wp2_with fail
                    exact ⟨rfl, _, rfl, rfl, hJ, .inr (.inr (Below.refl _ _))⟩
                · intro a gh wr d hag hall hJ hd
                  have ag1 : (a.tmps.getD 1 undef) = .int .i64 (n : Nat) := hag.kept 1 (by kernel_rfl)
                  have ag2 : (a.tmps.getD 2 undef) = .int .i64 px := hag.kept 2 (by kernel_rfl)
                  have ag8 : (a.tmps.getD 8 undef) = .slice (some ⟨g1, 0, none⟩) pl.length c1 := hag.kept 8 (by kernel_rfl)
                  have ag9 : (a.tmps.getD 9 undef) = .int .i64 (k : Nat) := hag.kept 9 (by kernel_rfl)
                  have ag10 : (a.tmps.getD 10 undef) = .slice (some ⟨gu, ou, none⟩) r.length cu := hag.kept 10 (by kernel_rfl)
                  rw [act74tp hag.size hag.defers]
                  clear hag
                  have hownN : wr.ownsRow w3.heap.size 3 1 (a.tmps.getD 70 undef) (k + 1 + (r.length - k)) ((L1 ++ [Value.int .i64 px]) ++ L2) := hd 13 (by kernel_rfl) _ rfl
                  have e15 : (a.tmps.getD 72 undef) = .pointer (some ⟨g1, n * 2, none⟩) := hd 15 (by kernel_rfl) _ rfl
                  clear hd
                  rw [Hfl.out, show k + 1 + (r.length - k) = (putF px r).length by rw [Hlen.out]; omega] at hownN
                  obtain ⟨A9, c9, e9, _, _⟩ := (RdS.of_own hownN).form
                  rw [e9] at hownN
                  have hw3 := hbb3.size
                  have hO := own_below HO.out hJ
                  have hlow := F3.out.2
                  have f9 := fresh_mono F3.out (Nat.le_refl _) hJ.size
                  have hk4 : OwL 3 cInt 1 wr (Value.slice A9 (putF px r).length c9).ownBlock.toList (.slice A9 (putF px r).length c9) (putF px r) := ⟨own_mono hownN (Nat.zero_le _), rfl⟩
                  have hf4 : Fresh w.heap.size wr (Value.slice A9 (putF px r).length c9).ownBlock.toList := fresh_mono (fresh_of hownN) hw3 (Nat.le_refl _)
                  have hset := HS.out wr _ _ _ hO (fun i p q hp hq => ⟨(HR.out i p q hp hq).1, own_below (HR.out i p q hp hq).2 hJ⟩) f9 hk4 hf4 (fun b hb hb' => by have := (hlow b hb).2; have := (hownN.lt b (by simpa using hb')).1; omega)
                  have hxl := hO.1
                  obtain ⟨u0, k9⟩ : ∃ u, wr.cell? ⟨g1, n * 2, none⟩ = some u := ⟨_, (hO.cellAt (n * 2) (by omega)).trans (List.getElem?_eq_getElem (by omega))⟩
                  have f9' := hO.frozenAt (n * 2)
                  have hb9 : Below w.heap.size w (wr.setCell ⟨g1, n * 2, none⟩ (.slice A9 (putF px r).length c9)) := (bl_trans hbb3 hJ).setCell (by have := (hlow g1 List.mem_cons_self).1; omega) _
                  have Hset := Lib.hid hset
                  clear hset hO hlow f9 hk4 hf4 hxl hownN
                  simp only [ag1, ag2, ag8, ag9, ag10, e15, e9]
                  change wpList _ _ _ [_] _ _
                  go_wp2_with fail
                  go_ret2
                  exact retPls_of Hte2.out Hset.out.1 Hset.out.2 (Nat.le_refl _) hb9
            · have hat := Hstop.out _ h5 (.inl (by omega))
              by_cases h00 : 0 < r.length
              · obtain ⟨gu, ou, rfl, hgu, hcu2⟩ := h5.cell (k := 0) cInt_len (by omega) h00
                clear hcu2
                have hkl : k ≤ r.length := by omega
                obtain ⟨L1, hL1⟩ : ∃ L1, (r.take k).flatMap cInt = L1 := ⟨_, rfl⟩
                obtain ⟨L2, hL2⟩ : ∃ L2, (r.drop k).flatMap cInt = L2 := ⟨_, rfl⟩
                have hone1 : ∀ y ∈ L1, y.oneCell' = true := by rw [← hL1]; exact oneCell_flat cInt_one _
                have hone2 : ∀ y ∈ L2, y.oneCell' = true := by rw [← hL2]; exact oneCell_flat cInt_one _
                have hs1 : RdS w3 1 (.slice (some ⟨gu, ou, none⟩) k cu) k L1 := by rw [← hL1, flatI_take]; exact rdS_take h5 hkl
                have hd2 : RdS w3 1 (.slice (some ⟨gu, ou + k, none⟩) (r.length - k) (cu - k)) (r.length - k) L2 := by rw [← hL2, flatI_drop]; exact rdS_drop h5 hkl
                have hd3 : RdS w3 1 (.slice (some (if k = cu then ⟨gu, ou, none⟩ else ⟨gu, ou + k, none⟩)) (r.length - k) (cu - k)) (r.length - k) L2 := by rw [← hL2, flatI_drop]; exact rdS_dropA h5 hkl
                have hfl := putF_flat px r
                rw [hat, hL1, hL2] at hfl
                have Hfl := Lib.hid hfl
                have Hlen := Lib.hid (putF_len px r)
                clear hfl
                go_upto_region 8 with (fail)
                refine region_state (n := 74) 16 (by kernel_rfl) rfl (by kernel_rfl) tpgBef tpgNeed [13, 15] (by kernel_rfl) tpgR (fun _ w' => Below w3.heap.size w3 w') (fun _ => 0) (tpgP w3 (.slice (some ⟨gu, ou, none⟩) r.length cu) k (r.length - k) px L1 L2 (.slice (some ⟨g1, 0, none⟩) pl.length c1) n (.pointer (some ⟨g1, n * 2, none⟩))) ((Below.refl _ _).drew) ?_ ?_ ?_
                · intro i k v gh gh' w1 w2 hal hp hJ hR hg
                  match i, hp, hal with
                  | 0, hp, _ => exact hp
                  | 1, hp, _ => exact hp
                  | 2, ho, hal =>
                    rcases hR with rfl | rfl | hb
                    · exact absurd hal (by decide)
                    · exact absurd hal (by decide)
                    · obtain ⟨g, h1, h2⟩ := ho; exact ⟨g, h1, own_below h2 hb⟩
                  | 3, hp, _ => exact hp
                  | 4, hp, _ => exact hp
                  | 5, hp, _ => exact hp
                  | 6, ho, hal =>
                    rcases hR with rfl | rfl | hb
                    · exact absurd hal (by decide)
                    · exact absurd hal (by decide)
                    · exact own_below ho hb
                  | 7, hp, _ => exact hp
                  | 8, ho, hal =>
                    rcases hR with rfl | rfl | hb
                    · exact absurd hal (by decide)
                    · exact absurd hal (by decide)
                    · exact RdS.below ho hb
                  | 9, ho, hal =>
                    rcases hR with rfl | rfl | hb
                    · exact absurd hal (by decide)
                    · exact absurd hal (by decide)
                    · exact own_below ho hb
                  | 10, hp, _ => exact hp
                  | 11, hp, _ => exact hp
                  | 12, hp, _ => exact hp
                  | 13, ho, hal =>
                    rcases hR with rfl | rfl | hb
                    · exact absurd hal (by decide)
                    · exact absurd hal (by decide)
                    · exact own_below ho hb
                  | 14, hp, _ => exact hp
                  | 15, hp, _ => exact hp
                  | _ + 16, _, _ => trivial
                · refine ⟨?_, ?_, ?_, ?_, ?_, ?_, ?_, ?_, ?_, ?_, ?_, ?_, ?_, ?_, ?_, ?_, trivial⟩
                  all_goals
                    intro a gh wr d hag hdi hcl hJ hd
                    have ag1 : (a.tmps.getD 1 undef) = .int .i64 (n : Nat) := hag.kept 1 (by kernel_rfl)
                    have ag2 : (a.tmps.getD 2 undef) = .int .i64 px := hag.kept 2 (by kernel_rfl)
                    have ag8 : (a.tmps.getD 8 undef) = .slice (some ⟨g1, 0, none⟩) pl.length c1 := hag.kept 8 (by kernel_rfl)
                    have ag9 : (a.tmps.getD 9 undef) = .int .i64 (k : Nat) := hag.kept 9 (by kernel_rfl)
                    have ag10 : (a.tmps.getD 10 undef) = .slice (some ⟨gu, ou, none⟩) r.length cu := hag.kept 10 (by kernel_rfl)
                  · clear hag
                    go_wp2_with fail
                    exact ⟨rfl, _, rfl, rfl, hJ, .inr (.inr (Below.refl _ _))⟩
                  · clear hag
                    go_wp2_with fail
                    exact ⟨rfl, _, rfl, rfl, hJ, .inr (.inr (Below.refl _ _))⟩
                  · clear hag
                    go_wp2_with fail
                    exact ⟨rfl, _, rfl, ⟨wr.heap.size, rfl, World.ownsRow_made (size := 1) (e := 3) wr #[] 0 hJ.size (by simp [maxLen]) rfl⟩, hJ.alloc hJ.size _, .inr (.inr ((Below.refl _ _).alloc (Nat.le_refl _) _))⟩
                  · clear hag
                    go_wp2_with fail
                    exact ⟨rfl, _, rfl, rfl, hJ, .inr (.inr (Below.refl _ _))⟩
                  · clear hag
                    go_wp2_with fail
                    exact ⟨rfl, _, rfl, rfl, hJ, .inr (.inr (Below.refl _ _))⟩
                  · clear hag
                    have e1 : (a.tmps.getD 60 undef) = .slice (some ⟨gu, ou, none⟩) r.length cu := hd 3 (by kernel_rfl) _ rfl
                    have e2 : (a.tmps.getD 61 undef) = .int .i64 (k) := hd 4 (by kernel_rfl) _ rfl
                    go_wp2_with fail
                    all_goals
                      refine ⟨rfl, _, rfl, ?_, hJ, .inr (.inr (Below.refl _ _))⟩
                      first | exact hs1 | (simp; exact hs1) | (simp at hs1; exact hs1)
                  · rw [act74tp hag.size hag.defers]
                    obtain ⟨g1, e1, og⟩ : ∃ g, (a.tmps.getD 59 undef) = Value.slice (some ⟨g, 0, none⟩) 0 0 ∧ wr.ownsRow w3.heap.size 3 1 (a.tmps.getD 59 undef) 0 ([]) := hd 2 (by kernel_rfl) _ rfl
                    have hs1 : RdS w3 1 (a.tmps.getD 62 undef) (k) L1 := hd 5 (by kernel_rfl) _ rfl
                    clear hag hd
                    generalize a.tmps.getD 59 undef = x59 at *
                    generalize a.tmps.getD 62 undef = x62 at *
                    subst e1
                    go_wp2_with (at_builtin; refine wpList_append_empty _ rfl (.tmp 59) (.tmp 62) _ rfl w3.heap.size 3 iI _ 1 8 Tryz.underlying26 hiI hzI0 hzI1 hzI2 rfl (by omega) g1 rfl og _ (k) L1 rfl (hs1.below hJ) hone1 (by simp [maxLen] <;> omega) (by omega) hJ.size ?_; intro v3 w3 own3 b3 at3)
                    exact ⟨rfl, _, rfl, own3, hJ.trans (b3.mono hJ.size), .inr (.inr (b3))⟩
                  · clear hag
                    go_wp2_with fail
                    exact ⟨rfl, _, rfl, rfl, hJ, .inr (.inr (Below.refl _ _))⟩
                  · rw [act74tp hag.size hag.defers]
                    have e1 : (a.tmps.getD 64 undef) = .int .i64 px := hd 7 (by kernel_rfl) _ rfl
                    clear hag hd
                    generalize a.tmps.getD 64 undef = x64 at *
                    subst e1
                    go_wp2_with fail
                    exact ⟨rfl, _, rfl, rdS_new wr #[.int .i64 px] _ 1 1 rfl (by simp [maxLen]), hJ.alloc hJ.size _, .inr (.inr ((Below.refl _ _).alloc (Nat.le_refl _) _))⟩
                  · rw [act74tp hag.size hag.defers]
                    have og : wr.ownsRow w3.heap.size 3 1 (a.tmps.getD 63 undef) (k) (L1) := hd 6 (by kernel_rfl) _ rfl
                    have ok : RdS wr 1 (a.tmps.getD 65 undef) 1 [Value.int .i64 px] := hd 8 (by kernel_rfl) _ rfl
                    clear hag hd
                    generalize a.tmps.getD 63 undef = x63 at *
                    generalize a.tmps.getD 65 undef = x65 at *
                    obtain ⟨Aa, ca, e0, _, _⟩ := (RdS.of_own og).form
                    go_wp2_with (at_builtin; refine wpList_appendB _ rfl (.tmp 63) (.tmp 65) _ rfl w3.heap.size 3 iI _ 1 8 Tryz.underlying26 hiI hzI0 hzI1 hzI2 rfl (by omega) x63 (k) (L1) rfl og _ 1 _ rfl ok (by simp [Value.oneCell']) (by simp [maxLen] <;> omega) (by omega) hJ.size ?_; intro v3 w3 own3 gr3 at3)
                    exact ⟨rfl, _, rfl, own3, hJ.trans (below_own og gr3 hJ.size), .inl rfl⟩
                  · clear hag
                    go_wp2_with fail
                    exact ⟨rfl, _, rfl, rfl, hJ, .inr (.inr (Below.refl _ _))⟩
                  · clear hag
                    go_wp2_with fail
                    exact ⟨rfl, _, rfl, rfl, hJ, .inr (.inr (Below.refl _ _))⟩
                  · clear hag
                    have e1 : (a.tmps.getD 67 undef) = .slice (some ⟨gu, ou, none⟩) r.length cu := hd 10 (by kernel_rfl) _ rfl
                    have e2 : (a.tmps.getD 68 undef) = .int .i64 (k) := hd 11 (by kernel_rfl) _ rfl
                    go_wp2_with fail
                    all_goals
                      refine ⟨rfl, _, rfl, ?_, hJ, .inr (.inr (Below.refl _ _))⟩
                      first | exact hd2 | (rw [if_pos (show k = cu by omega), show cu - k = 0 by omega] at hd3; exact hd3) | (simp at hd3 ⊢; exact hd3)
                  · rw [act74tp hag.size hag.defers]
                    have og : wr.ownsRow w3.heap.size 3 1 (a.tmps.getD 66 undef) (k + 1) (L1 ++ [Value.int .i64 px]) := hd 9 (by kernel_rfl) _ rfl
                    have hs2 : RdS w3 1 (a.tmps.getD 69 undef) (r.length - k) L2 := hd 12 (by kernel_rfl) _ rfl
                    clear hag hd
                    generalize a.tmps.getD 66 undef = x66 at *
                    generalize a.tmps.getD 69 undef = x69 at *
                    obtain ⟨Aa, ca, e0, _, _⟩ := (RdS.of_own og).form
                    go_wp2_with (at_builtin; refine wpList_appendB _ rfl (.tmp 66) (.tmp 69) _ rfl w3.heap.size 3 iI _ 1 8 Tryz.underlying26 hiI hzI0 hzI1 hzI2 rfl (by omega) x66 (k + 1) (L1 ++ [Value.int .i64 px]) rfl og _ (r.length - k) _ rfl (hs2.below hJ) hone2 (by simp [maxLen] <;> omega) (by omega) hJ.size ?_; intro v3 w3 own3 gr3 at3)
                    exact ⟨rfl, _, rfl, own3, hJ.trans (below_own og gr3 hJ.size), .inr (.inl rfl)⟩
                  · clear hag
                    have e1 : (a.tmps.getD 57 undef) = .slice (some ⟨g1, 0, none⟩) pl.length c1 := hd 0 (by kernel_rfl) _ rfl
                    have e2 : (a.tmps.getD 58 undef) = .int .i64 (n : Nat) := hd 1 (by kernel_rfl) _ rfl
                    go_wp2_with fail
                    exact ⟨rfl, _, rfl, by simp [tpgP], hJ, .inr (.inr (Below.refl _ _))⟩
                  · clear hag
                    have e1 : (a.tmps.getD 71 undef) = .pointer (some ⟨g1, n * 2, none⟩) := hd 14 (by kernel_rfl) _ rfl
                    go_wp2_with fail
                    exact ⟨rfl, _, rfl, rfl, hJ, .inr (.inr (Below.refl _ _))⟩
                · intro a gh wr d hag hall hJ hd
                  have ag1 : (a.tmps.getD 1 undef) = .int .i64 (n : Nat) := hag.kept 1 (by kernel_rfl)
                  have ag2 : (a.tmps.getD 2 undef) = .int .i64 px := hag.kept 2 (by kernel_rfl)
                  have ag8 : (a.tmps.getD 8 undef) = .slice (some ⟨g1, 0, none⟩) pl.length c1 := hag.kept 8 (by kernel_rfl)
                  have ag9 : (a.tmps.getD 9 undef) = .int .i64 (k : Nat) := hag.kept 9 (by kernel_rfl)
                  have ag10 : (a.tmps.getD 10 undef) = .slice (some ⟨gu, ou, none⟩) r.length cu := hag.kept 10 (by kernel_rfl)
                  rw [act74tp hag.size hag.defers]
                  clear hag
                  have hownN : wr.ownsRow w3.heap.size 3 1 (a.tmps.getD 70 undef) (k + 1 + (r.length - k)) ((L1 ++ [Value.int .i64 px]) ++ L2) := hd 13 (by kernel_rfl) _ rfl
                  have e15 : (a.tmps.getD 72 undef) = .pointer (some ⟨g1, n * 2, none⟩) := hd 15 (by kernel_rfl) _ rfl
                  clear hd
                  rw [Hfl.out, show k + 1 + (r.length - k) = (putF px r).length by rw [Hlen.out]; omega] at hownN
                  obtain ⟨A9, c9, e9, _, _⟩ := (RdS.of_own hownN).form
                  rw [e9] at hownN
                  have hw3 := hbb3.size
                  have hO := own_below HO.out hJ
                  have hlow := F3.out.2
                  have f9 := fresh_mono F3.out (Nat.le_refl _) hJ.size
                  have hk4 : OwL 3 cInt 1 wr (Value.slice A9 (putF px r).length c9).ownBlock.toList (.slice A9 (putF px r).length c9) (putF px r) := ⟨own_mono hownN (Nat.zero_le _), rfl⟩
                  have hf4 : Fresh w.heap.size wr (Value.slice A9 (putF px r).length c9).ownBlock.toList := fresh_mono (fresh_of hownN) hw3 (Nat.le_refl _)
                  have hset := HS.out wr _ _ _ hO (fun i p q hp hq => ⟨(HR.out i p q hp hq).1, own_below (HR.out i p q hp hq).2 hJ⟩) f9 hk4 hf4 (fun b hb hb' => by have := (hlow b hb).2; have := (hownN.lt b (by simpa using hb')).1; omega)
                  have hxl := hO.1
                  obtain ⟨u0, k9⟩ : ∃ u, wr.cell? ⟨g1, n * 2, none⟩ = some u := ⟨_, (hO.cellAt (n * 2) (by omega)).trans (List.getElem?_eq_getElem (by omega))⟩
                  have f9' := hO.frozenAt (n * 2)
                  have hb9 : Below w.heap.size w (wr.setCell ⟨g1, n * 2, none⟩ (.slice A9 (putF px r).length c9)) := (bl_trans hbb3 hJ).setCell (by have := (hlow g1 List.mem_cons_self).1; omega) _
                  have Hset := Lib.hid hset
                  clear hset hO hlow f9 hk4 hf4 hxl hownN
                  simp only [ag1, ag2, ag8, ag9, ag10, e15, e9]
                  change wpList _ _ _ [_] _ _
                  go_wp2_with fail
                  go_ret2
                  exact retPls_of Hte2.out Hset.out.1 Hset.out.2 (Nat.le_refl _) hb9
              · obtain rfl : r = [] := List.eq_nil_of_length_eq_zero (by omega)
                simp only [List.length_nil] at *
                obtain rfl : k = 0 := by omega
                have hkl : 0 ≤ 0 := by omega
                obtain ⟨L1, hL1⟩ : ∃ L1, (([] : List Int).take 0).flatMap cInt = L1 := ⟨_, rfl⟩
                obtain ⟨L2, hL2⟩ : ∃ L2, (([] : List Int).drop 0).flatMap cInt = L2 := ⟨_, rfl⟩
                have hone1 : ∀ y ∈ L1, y.oneCell' = true := by rw [← hL1]; exact oneCell_flat cInt_one _
                have hone2 : ∀ y ∈ L2, y.oneCell' = true := by rw [← hL2]; exact oneCell_flat cInt_one _
                have hs1 : RdS w3 1 (.slice Au 0 cu) 0 L1 := rdS_zero (by rw [← hL1]; rfl) (by simp [maxLen] <;> omega)
                have hd2 : RdS w3 1 (.slice Au 0 cu) 0 L2 := rdS_zero (by rw [← hL2]; rfl) (by simp [maxLen] <;> omega)
                have hfl := putF_flat px ([] : List Int)
                rw [hat, hL1, hL2] at hfl
                have Hfl := Lib.hid hfl
                have Hlen := Lib.hid (putF_len px ([] : List Int))
                clear hfl
                go_upto_region 8 with (fail)
                refine region_state (n := 74) 16 (by kernel_rfl) rfl (by kernel_rfl) tpgBef tpgNeed [13, 15] (by kernel_rfl) tpgR (fun _ w' => Below w3.heap.size w3 w') (fun _ => 0) (tpgP w3 (.slice Au 0 cu) 0 (0) px L1 L2 (.slice (some ⟨g1, 0, none⟩) pl.length c1) n (.pointer (some ⟨g1, n * 2, none⟩))) ((Below.refl _ _).drew) ?_ ?_ ?_
                · intro i k v gh gh' w1 w2 hal hp hJ hR hg
                  match i, hp, hal with
                  | 0, hp, _ => exact hp
                  | 1, hp, _ => exact hp
                  | 2, ho, hal =>
                    rcases hR with rfl | rfl | hb
                    · exact absurd hal (by decide)
                    · exact absurd hal (by decide)
                    · obtain ⟨g, h1, h2⟩ := ho; exact ⟨g, h1, own_below h2 hb⟩
                  | 3, hp, _ => exact hp
                  | 4, hp, _ => exact hp
                  | 5, hp, _ => exact hp
                  | 6, ho, hal =>
                    rcases hR with rfl | rfl | hb
                    · exact absurd hal (by decide)
                    · exact absurd hal (by decide)
                    · exact own_below ho hb
                  | 7, hp, _ => exact hp
                  | 8, ho, hal =>
                    rcases hR with rfl | rfl | hb
                    · exact absurd hal (by decide)
                    · exact absurd hal (by decide)
                    · exact RdS.below ho hb
                  | 9, ho, hal =>
                    rcases hR with rfl | rfl | hb
                    · exact absurd hal (by decide)
                    · exact absurd hal (by decide)
                    · exact own_below ho hb
                  | 10, hp, _ => exact hp
                  | 11, hp, _ => exact hp
                  | 12, hp, _ => exact hp
                  | 13, ho, hal =>
                    rcases hR with rfl | rfl | hb
                    · exact absurd hal (by decide)
                    · exact absurd hal (by decide)
                    · exact own_below ho hb
                  | 14, hp, _ => exact hp
                  | 15, hp, _ => exact hp
                  | _ + 16, _, _ => trivial
                · refine ⟨?_, ?_, ?_, ?_, ?_, ?_, ?_, ?_, ?_, ?_, ?_, ?_, ?_, ?_, ?_, ?_, trivial⟩
                  all_goals
                    intro a gh wr d hag hdi hcl hJ hd
                    have ag1 : (a.tmps.getD 1 undef) = .int .i64 (n : Nat) := hag.kept 1 (by kernel_rfl)
                    have ag2 : (a.tmps.getD 2 undef) = .int .i64 px := hag.kept 2 (by kernel_rfl)
                    have ag8 : (a.tmps.getD 8 undef) = .slice (some ⟨g1, 0, none⟩) pl.length c1 := hag.kept 8 (by kernel_rfl)
                    have ag9 : (a.tmps.getD 9 undef) = .int .i64 (0 : Nat) := hag.kept 9 (by kernel_rfl)
                    have ag10 : (a.tmps.getD 10 undef) = .slice Au 0 cu := hag.kept 10 (by kernel_rfl)
                  · clear hag
                    go_wp2_with fail
                    exact ⟨rfl, _, rfl, rfl, hJ, .inr (.inr (Below.refl _ _))⟩
                  · clear hag
                    go_wp2_with fail
                    exact ⟨rfl, _, rfl, rfl, hJ, .inr (.inr (Below.refl _ _))⟩
                  · clear hag
                    go_wp2_with fail
                    exact ⟨rfl, _, rfl, ⟨wr.heap.size, rfl, World.ownsRow_made (size := 1) (e := 3) wr #[] 0 hJ.size (by simp [maxLen]) rfl⟩, hJ.alloc hJ.size _, .inr (.inr ((Below.refl _ _).alloc (Nat.le_refl _) _))⟩
                  · clear hag
                    go_wp2_with fail
                    exact ⟨rfl, _, rfl, rfl, hJ, .inr (.inr (Below.refl _ _))⟩
                  · clear hag
                    go_wp2_with fail
                    exact ⟨rfl, _, rfl, rfl, hJ, .inr (.inr (Below.refl _ _))⟩
                  · clear hag
                    have e1 : (a.tmps.getD 60 undef) = .slice Au 0 cu := hd 3 (by kernel_rfl) _ rfl
                    have e2 : (a.tmps.getD 61 undef) = .int .i64 (0) := hd 4 (by kernel_rfl) _ rfl
                    go_wp2_with fail
                    all_goals
                      refine ⟨rfl, _, rfl, ?_, hJ, .inr (.inr (Below.refl _ _))⟩
                      exact hs1
                  · rw [act74tp hag.size hag.defers]
                    obtain ⟨g1, e1, og⟩ : ∃ g, (a.tmps.getD 59 undef) = Value.slice (some ⟨g, 0, none⟩) 0 0 ∧ wr.ownsRow w3.heap.size 3 1 (a.tmps.getD 59 undef) 0 ([]) := hd 2 (by kernel_rfl) _ rfl
                    have hs1 : RdS w3 1 (a.tmps.getD 62 undef) (0) L1 := hd 5 (by kernel_rfl) _ rfl
                    clear hag hd
                    generalize a.tmps.getD 59 undef = x59 at *
                    generalize a.tmps.getD 62 undef = x62 at *
                    subst e1
                    go_wp2_with (at_builtin; refine wpList_append_empty _ rfl (.tmp 59) (.tmp 62) _ rfl w3.heap.size 3 iI _ 1 8 Tryz.underlying26 hiI hzI0 hzI1 hzI2 rfl (by omega) g1 rfl og _ (0) L1 rfl (hs1.below hJ) hone1 (by simp [maxLen] <;> omega) (by omega) hJ.size ?_; intro v3 w3 own3 b3 at3)
                    exact ⟨rfl, _, rfl, own3, hJ.trans (b3.mono hJ.size), .inr (.inr (b3))⟩
                  · clear hag
                    go_wp2_with fail
                    exact ⟨rfl, _, rfl, rfl, hJ, .inr (.inr (Below.refl _ _))⟩
                  · rw [act74tp hag.size hag.defers]
                    have e1 : (a.tmps.getD 64 undef) = .int .i64 px := hd 7 (by kernel_rfl) _ rfl
                    clear hag hd
                    generalize a.tmps.getD 64 undef = x64 at *
                    subst e1
                    go_wp2_with fail
                    exact ⟨rfl, _, rfl, rdS_new wr #[.int .i64 px] _ 1 1 rfl (by simp [maxLen]), hJ.alloc hJ.size _, .inr (.inr ((Below.refl _ _).alloc (Nat.le_refl _) _))⟩
                  · rw [act74tp hag.size hag.defers]
                    have og : wr.ownsRow w3.heap.size 3 1 (a.tmps.getD 63 undef) (0) (L1) := hd 6 (by kernel_rfl) _ rfl
                    have ok : RdS wr 1 (a.tmps.getD 65 undef) 1 [Value.int .i64 px] := hd 8 (by kernel_rfl) _ rfl
                    clear hag hd
                    generalize a.tmps.getD 63 undef = x63 at *
                    generalize a.tmps.getD 65 undef = x65 at *
                    obtain ⟨Aa, ca, e0, _, _⟩ := (RdS.of_own og).form
                    go_wp2_with (at_builtin; refine wpList_appendB _ rfl (.tmp 63) (.tmp 65) _ rfl w3.heap.size 3 iI _ 1 8 Tryz.underlying26 hiI hzI0 hzI1 hzI2 rfl (by omega) x63 (0) (L1) rfl og _ 1 _ rfl ok (by simp [Value.oneCell']) (by simp [maxLen] <;> omega) (by omega) hJ.size ?_; intro v3 w3 own3 gr3 at3)
                    exact ⟨rfl, _, rfl, own3, hJ.trans (below_own og gr3 hJ.size), .inl rfl⟩
                  · clear hag
                    go_wp2_with fail
                    exact ⟨rfl, _, rfl, rfl, hJ, .inr (.inr (Below.refl _ _))⟩
                  · clear hag
                    go_wp2_with fail
                    exact ⟨rfl, _, rfl, rfl, hJ, .inr (.inr (Below.refl _ _))⟩
                  · clear hag
                    have e1 : (a.tmps.getD 67 undef) = .slice Au 0 cu := hd 10 (by kernel_rfl) _ rfl
                    have e2 : (a.tmps.getD 68 undef) = .int .i64 (0) := hd 11 (by kernel_rfl) _ rfl
                    go_wp2_with fail
                    all_goals
                      refine ⟨rfl, _, rfl, ?_, hJ, .inr (.inr (Below.refl _ _))⟩
                      exact hd2
                  · rw [act74tp hag.size hag.defers]
                    have og : wr.ownsRow w3.heap.size 3 1 (a.tmps.getD 66 undef) (0 + 1) (L1 ++ [Value.int .i64 px]) := hd 9 (by kernel_rfl) _ rfl
                    have hs2 : RdS w3 1 (a.tmps.getD 69 undef) (0) L2 := hd 12 (by kernel_rfl) _ rfl
                    clear hag hd
                    generalize a.tmps.getD 66 undef = x66 at *
                    generalize a.tmps.getD 69 undef = x69 at *
                    obtain ⟨Aa, ca, e0, _, _⟩ := (RdS.of_own og).form
                    go_wp2_with (at_builtin; refine wpList_appendB _ rfl (.tmp 66) (.tmp 69) _ rfl w3.heap.size 3 iI _ 1 8 Tryz.underlying26 hiI hzI0 hzI1 hzI2 rfl (by omega) x66 (0 + 1) (L1 ++ [Value.int .i64 px]) rfl og _ (0) _ rfl (hs2.below hJ) hone2 (by simp [maxLen] <;> omega) (by omega) hJ.size ?_; intro v3 w3 own3 gr3 at3)
                    exact ⟨rfl, _, rfl, own3, hJ.trans (below_own og gr3 hJ.size), .inr (.inl rfl)⟩
                  · clear hag
                    have e1 : (a.tmps.getD 57 undef) = .slice (some ⟨g1, 0, none⟩) pl.length c1 := hd 0 (by kernel_rfl) _ rfl
                    have e2 : (a.tmps.getD 58 undef) = .int .i64 (n : Nat) := hd 1 (by kernel_rfl) _ rfl
                    go_wp2_with fail
                    exact ⟨rfl, _, rfl, by simp [tpgP], hJ, .inr (.inr (Below.refl _ _))⟩
                  · clear hag
                    have e1 : (a.tmps.getD 71 undef) = .pointer (some ⟨g1, n * 2, none⟩) := hd 14 (by kernel_rfl) _ rfl
                    go_wp2_with fail
                    exact ⟨rfl, _, rfl, rfl, hJ, .inr (.inr (Below.refl _ _))⟩
                · intro a gh wr d hag hall hJ hd
                  have ag1 : (a.tmps.getD 1 undef) = .int .i64 (n : Nat) := hag.kept 1 (by kernel_rfl)
                  have ag2 : (a.tmps.getD 2 undef) = .int .i64 px := hag.kept 2 (by kernel_rfl)
                  have ag8 : (a.tmps.getD 8 undef) = .slice (some ⟨g1, 0, none⟩) pl.length c1 := hag.kept 8 (by kernel_rfl)
                  have ag9 : (a.tmps.getD 9 undef) = .int .i64 (0 : Nat) := hag.kept 9 (by kernel_rfl)
                  have ag10 : (a.tmps.getD 10 undef) = .slice Au 0 cu := hag.kept 10 (by kernel_rfl)
                  rw [act74tp hag.size hag.defers]
                  clear hag
                  have hownN : wr.ownsRow w3.heap.size 3 1 (a.tmps.getD 70 undef) (0 + 1 + (0)) ((L1 ++ [Value.int .i64 px]) ++ L2) := hd 13 (by kernel_rfl) _ rfl
                  have e15 : (a.tmps.getD 72 undef) = .pointer (some ⟨g1, n * 2, none⟩) := hd 15 (by kernel_rfl) _ rfl
                  clear hd
                  rw [Hfl.out, show 0 + 1 + (0) = (putF px ([] : List Int)).length by rw [Hlen.out]; rfl] at hownN
                  obtain ⟨A9, c9, e9, _, _⟩ := (RdS.of_own hownN).form
                  rw [e9] at hownN
                  have hw3 := hbb3.size
                  have hO := own_below HO.out hJ
                  have hlow := F3.out.2
                  have f9 := fresh_mono F3.out (Nat.le_refl _) hJ.size
                  have hk4 : OwL 3 cInt 1 wr (Value.slice A9 (putF px ([] : List Int)).length c9).ownBlock.toList (.slice A9 (putF px ([] : List Int)).length c9) (putF px ([] : List Int)) := ⟨own_mono hownN (Nat.zero_le _), rfl⟩
                  have hf4 : Fresh w.heap.size wr (Value.slice A9 (putF px ([] : List Int)).length c9).ownBlock.toList := fresh_mono (fresh_of hownN) hw3 (Nat.le_refl _)
                  have hset := HS.out wr _ _ _ hO (fun i p q hp hq => ⟨(HR.out i p q hp hq).1, own_below (HR.out i p q hp hq).2 hJ⟩) f9 hk4 hf4 (fun b hb hb' => by have := (hlow b hb).2; have := (hownN.lt b (by simpa using hb')).1; omega)
                  have hxl := hO.1
                  obtain ⟨u0, k9⟩ : ∃ u, wr.cell? ⟨g1, n * 2, none⟩ = some u := ⟨_, (hO.cellAt (n * 2) (by omega)).trans (List.getElem?_eq_getElem (by omega))⟩
                  have f9' := hO.frozenAt (n * 2)
                  have hb9 : Below w.heap.size w (wr.setCell ⟨g1, n * 2, none⟩ (.slice A9 (putF px ([] : List Int)).length c9)) := (bl_trans hbb3 hJ).setCell (by have := (hlow g1 List.mem_cons_self).1; omega) _
                  have Hset := Lib.hid hset
                  clear hset hO hlow f9 hk4 hf4 hxl hownN
                  simp only [ag1, ag2, ag8, ag9, ag10, e15, e9]
                  change wpList _ _ _ [_] _ _
                  go_wp2_with fail
                  go_ret2
                  exact retPls_of Hte2.out Hset.out.1 Hset.out.2 (Nat.le_refl _) hb9
      · have Hte := Lib.hid (teach_f3 (pl := pl) (k := n) hp.out)
        go_wp2_with fail
        go_ret2
        exact retPls_of (teachF_f Hte.out) ow2.out f2 (Nat.le_refl _) hbb
    · have Hte := Lib.hid (teach_f2 (p := px) hk.out)
      go_wp2_with fail
      go_ret2
      exact retPls_of (teachF_f Hte.out) ow2.out f2 (Nat.le_refl _) hbb
  · have Hte := Lib.hid (teach_f1 (k := kx) (p := px) hq.out)
    go_wp2_with fail
    go_ret2
    exact retPls_of (teachF_f Hte.out) (Ow.out.below hb2) (fresh_mono f1 (Nat.le_refl _) hb2.size) (Nat.le_refl _) (bl_trans hb1 hb2)
open Go.RowKit
set_option maxHeartbeats 8000000 in
set_option maxRecDepth 100000 in
theorem implTeachPlayer_any (n m kx px : Int) (v1 v2 v3 : Value) (cs : List RCross) (pl : List RPl) (ds : List Int) (w : World) (h : RdTheatre w v1 v2 v3 cs pl ds) (hsz : szTheatre cs pl ds ≤ 1048576) :
  Calls Tryz.prog 40 #[.agg #[.int .i64 n, v1, v2, v3, .int .i64 m], .int .i64 kx, .int .i64 px] w (RetTh w.heap.size (teachT ⟨n, m, cs, pl, ds⟩ kx px) w) := by
 obtain ⟨⟨A1, n1, rfl⟩, ⟨A2, n2, rfl⟩, ⟨A3, n3, rfl⟩⟩ := h.forms
 have hszp : plsTot pl ≤ 1048576 := by unfold szTheatre szCompany at hsz; omega
 unfold teachT
 obtain ⟨⟨⟨rn, rm, rcs, rpl, rds⟩, rb⟩, hres⟩ : ∃ res, becF ⟨n, m, cs, pl, ds⟩ ⟨n, wrap64 (m - 4), cs, (teachF pl kx px).1, ds⟩ (teachF pl kx px).2 = res := ⟨_, rfl⟩
 rw [hres]
 change Calls _ _ _ _ (RetT w.heap.size rn rm rb rcs rpl rds w)
 have Hres := Lib.hid hres
 clear hres
 go_enter Tryz.func40, Tryz.ntmps40
 go_wp2_with fail
 refine (theatreCopied_any n m _ _ _ cs pl ds _ (h.below (by (repeat' (with_reducible first | exact Below.refl _ _ | assumption | refine qS ?_ _ | refine qA ?_ _ | refine qD ?_ | refine qN ?_ _)))) hsz).mono ?_
 rintro e W1 ⟨x1, x2, x3, S, rfl, ow, f1, q⟩
 obtain ⟨⟨B1, k1, rfl⟩, ⟨B2, k2, rfl⟩, ⟨B3, k3, rfl⟩⟩ := ow.rd.forms
 have Lc : Loc W1 (w.heap.size) [.int .i64 n, .slice A1 cs.length n1, .slice A2 pl.length n2, .slice A3 ds.length n3, .int .i64 m] := by have := ((Loc.new w #[.int .i64 n, .slice A1 cs.length n1, .slice A2 pl.length n2, .slice A3 ds.length n3, .int .i64 m] 37).alloc _).below q; simpa using this
 have Lr : Loc W1 (w.heap.size + 1) [.int .i64 0, .slice none 0 0, .slice none 0 0, .slice none 0 0, .int .i64 0] := by have := (Loc.new (w.alloc (.cells #[.int .i64 n, .slice A1 cs.length n1, .slice A2 pl.length n2, .slice A3 ds.length n3, .int .i64 m] 37)) #[.int .i64 0, .slice none 0 0, .slice none 0 0, .slice none 0 0, .int .i64 0] 37).below q; simpa using this
 have hb : Below w.heap.size w W1 := Below.trans (by (repeat' (with_reducible first | exact Below.refl _ _ | assumption | refine qS ?_ _ | refine qA ?_ _ | refine qD ?_ | refine qN ?_ _))) (q.mono (by simp <;> omega))
 have hz0 : w.heap.size + 1 + 1 ≤ W1.heap.size := by have := q.size; simp at this; omega
 have hlow : w.heap.size + 1 + 1 ≤ (((w.alloc (.cells #[.int .i64 n, .slice A1 cs.length n1, .slice A2 pl.length n2, .slice A3 ds.length n3, .int .i64 m] 37)).alloc (.cells #[.int .i64 0, .slice none 0 0, .slice none 0 0, .slice none 0 0, .int .i64 0] 37))).heap.size := by first | exact Nat.le_refl _ | (simp; done) | (simp; omega) | omega
 have FK := Lib.hid (fresh_mono f1 hlow (Nat.le_refl _))
 have DK : Hid (∀ x ∈ S, x ∉ [w.heap.size, w.heap.size + 1]) := (fun x hx => by have := (FK.out.2 x hx).1; simp; omega)
 have OK := Lib.hid ow
 clear ow f1 hlow
 clear q
 go_upto_region 2 with (fail)
 replace Lc : Loc (W1.alloc (.cells #[.int .i64 n, .slice B1 cs.length k1, .slice B2 pl.length k2, .slice B3 ds.length k3, .int .i64 m] 37)) (w.heap.size) [.int .i64 n, .slice A1 cs.length n1, .slice A2 pl.length n2, .slice A3 ds.length n3, .int .i64 m] := Lc.alloc _
 replace Lr : Loc (W1.alloc (.cells #[.int .i64 n, .slice B1 cs.length k1, .slice B2 pl.length k2, .slice B3 ds.length k3, .int .i64 m] 37)) (w.heap.size + 1) [.int .i64 0, .slice none 0 0, .slice none 0 0, .slice none 0 0, .int .i64 0] := Lr.alloc _
 obtain ⟨go, hgo⟩ : ∃ g, W1.heap.size = g := ⟨_, rfl⟩
 have Lo : Loc (W1.alloc (.cells #[.int .i64 n, .slice B1 cs.length k1, .slice B2 pl.length k2, .slice B3 ds.length k3, .int .i64 m] 37)) W1.heap.size [.int .i64 n, .slice B1 cs.length k1, .slice B2 pl.length k2, .slice B3 ds.length k3, .int .i64 m] := Loc.new W1 #[.int .i64 n, .slice B1 cs.length k1, .slice B2 pl.length k2, .slice B3 ds.length k3, .int .i64 m] 37
 rw [hgo] at Lo
 replace OK := Lib.hid (OK.out.below (w' := (W1.alloc (.cells #[.int .i64 n, .slice B1 cs.length k1, .slice B2 pl.length k2, .slice B3 ds.length k3, .int .i64 m] 37))) ((Below.refl _ _).alloc (Nat.le_refl _) _))
 replace DK : Hid (∀ x ∈ S, x ∉ [w.heap.size, w.heap.size + 1, go]) := (fun x hx => by have := DK.out x hx; have := (FK.out.2 x hx).2; simp at *; omega)
 replace FK := Lib.hid (fresh_mono (w' := (W1.alloc (.cells #[.int .i64 n, .slice B1 cs.length k1, .slice B2 pl.length k2, .slice B3 ds.length k3, .int .i64 m] 37))) FK.out (Nat.le_refl _) (by simp))
 replace hb : Below w.heap.size w (W1.alloc (.cells #[.int .i64 n, .slice B1 cs.length k1, .slice B2 pl.length k2, .slice B3 ds.length k3, .int .i64 m] 37)) := hb.alloc hb.size _
 have hlto : go < (W1.alloc (.cells #[.int .i64 n, .slice B1 cs.length k1, .slice B2 pl.length k2, .slice B3 ds.length k3, .int .i64 m] 37)).heap.size := by simp; omega
 have hne_c_o : w.heap.size < go := by omega
 have hne_r_o : w.heap.size + 1 < go := by omega
 generalize W1.alloc (.cells #[.int .i64 n, .slice B1 cs.length k1, .slice B2 pl.length k2, .slice B3 ds.length k3, .int .i64 m] 37) = W2 at *
 rw [hgo]
 clear hgo
 obtain ⟨SK1, SK3, eK, oK, pK⟩ := OK.out
 have FKx := FK.out
 have DKx := DK.out
 rw [eK] at FKx DKx
 have OK1 := Lib.hid oK
 have OK3 := Lib.hid pK
 have FK1 := Lib.hid (fresh_left FKx)
 have FK3 := Lib.hid (fresh_right FKx)
 have DK1 : Hid (∀ x ∈ SK1, x ∉ [w.heap.size, w.heap.size + 1, go]) := (fun x hx => DKx x (List.mem_append_left _ hx))
 have DK3 : Hid (∀ x ∈ SK3, x ∉ [w.heap.size, w.heap.size + 1, go]) := (fun x hx => DKx x (List.mem_append_right _ hx))
 have JK : Hid (∀ x ∈ SK1, x ∉ SK3) := (nodup2 FKx.1).2.2.1
 clear OK FK DK FKx DKx oK pK
 obtain ⟨SK11, SK12, eK1, oK1, pK1⟩ := OK1.out
 have FK1x := FK1.out
 have DK1x := DK1.out
 rw [eK1] at FK1x DK1x
 have OK11 := Lib.hid oK1
 have OK12 := Lib.hid pK1
 have FK11 := Lib.hid (fresh_left FK1x)
 have FK12 := Lib.hid (fresh_right FK1x)
 have DK11 : Hid (∀ x ∈ SK11, x ∉ [w.heap.size, w.heap.size + 1, go]) := (fun x hx => DK1x x (List.mem_append_left _ hx))
 have DK12 : Hid (∀ x ∈ SK12, x ∉ [w.heap.size, w.heap.size + 1, go]) := (fun x hx => DK1x x (List.mem_append_right _ hx))
 have JK1 : Hid (∀ x ∈ SK11, x ∉ SK12) := (nodup2 FK1x.1).2.2.1
 clear OK1 FK1 DK1 FK1x DK1x oK1 pK1
 have hU1 : ∀ x ∈ SK11, x < W2.heap.size := fun x hx => (FK11.out.2 x hx).2
 have hU3 : ∀ x ∈ SK3, x < W2.heap.size := fun x hx => (FK3.out.2 x hx).2
 have hJ13 : ∀ x ∈ SK11, x ∉ SK3 := fun x hx hx' => JK.out x (by rw [eK1]; exact List.mem_append_left _ hx) hx'
 have HJ13 := Lib.hid hJ13
 clear hJ13
 have o2 := (Lo 2 _ rfl).1
 go_wp2_with fail
 refine (implTeachPuppet_any _ pl kx px _ OK12.out.rd hszp).mono ?_
 rintro e W3 ⟨x4, SX, rfl, ox, fx, q⟩
 clear o2
 obtain ⟨C1, l1, rfl, _, _⟩ := ox.rd.form
 have hzq : W2.heap.size ≤ W3.heap.size := by have := q.size; (try simp at this); omega
 replace Lc := Lc.below q
 replace Lr := Lr.below q
 replace Lo := Lo.below q
 replace OK3 := Lib.hid (OK3.out.below q)
 replace FK3 := Lib.hid (fresh_mono (w' := W3) FK3.out (Nat.le_refl _) hzq)
 replace OK11 := Lib.hid (OK11.out.below q)
 replace FK11 := Lib.hid (fresh_mono (w' := W3) FK11.out (Nat.le_refl _) hzq)
 replace OK12 := Lib.hid (OK12.out.below q)
 replace FK12 := Lib.hid (fresh_mono (w' := W3) FK12.out (Nat.le_refl _) hzq)
 replace hb : Below w.heap.size w W3 := hb.trans (q.mono hb.size)
 have hlow : W2.heap.size ≤ W2.heap.size := by first | exact Nat.le_refl _ | (simp; done) | (simp; omega) | omega
 have FX := Lib.hid (fresh_mono fx hlow (Nat.le_refl _))
 have DX : Hid (∀ x ∈ SX, x ∉ [w.heap.size, w.heap.size + 1, go]) := (fun x hx => by have := (FX.out.2 x hx).1; simp; omega)
 have OX := Lib.hid ox
 clear ox fx hlow
 clear q
 have hlt := teach_len pl kx px
 generalize (teachF pl kx px).2 = okc at *
 generalize (teachF pl kx px).1 = pl' at *
 clear hlt
 have J1X : Hid (∀ x ∈ SK11, x ∉ SX) := (fun x hx hx' => by have := (FX.out.2 x hx').1; have := hU1 x hx; omega)
 have JX3 : Hid (∀ x ∈ SX, x ∉ SK3) := (fun x hx hx' => by have := (FX.out.2 x hx).1; have := hU3 x hx'; omega)
 clear hU1 hU3
 clear OK12 FK12 DK12
 have o0 := (Lo 0 _ rfl).1
 have of0 := (Lo 0 _ rfl).2
 have o1 := (Lo 1 _ rfl).1
 have of1 := (Lo 1 _ rfl).2
 have o2 := (Lo 2 _ rfl).1
 have of2 := (Lo 2 _ rfl).2
 have o3 := (Lo 3 _ rfl).1
 have of3 := (Lo 3 _ rfl).2
 have o4 := (Lo 4 _ rfl).1
 have of4 := (Lo 4 _ rfl).2
 go_upto_region 4 with (fail)
 clear o0 of0 o1 of1 o2 of2 o3 of3 o4 of4
 replace Lc := Lc.far (g := go) (i := 2) (u := .slice C1 pl'.length l1) (by omega)
 replace Lr := Lr.far (g := go) (i := 2) (u := .slice C1 pl'.length l1) (by omega)
 replace Lo : Loc (W3.setCell ⟨go, 2, none⟩ (.slice C1 pl'.length l1)) (go) [.int .i64 n, .slice B1 cs.length k1, .slice C1 pl'.length l1, .slice B3 ds.length k3, .int .i64 m] := Lo.set (i := 2) (v := .slice B2 pl.length k2) rfl
 have hch : Chg [go] W3 (W3.setCell ⟨go, 2, none⟩ (.slice C1 pl'.length l1)) := chg_set (Chg.refl _ _) (by simp)
 replace OK3 := Lib.hid (OK3.out.chg hch (fun x hx hx' => DK3.out x hx (by simp at hx'; subst hx'; simp)))
 replace FK3 := Lib.hid (fresh_mono (w' := (W3.setCell ⟨go, 2, none⟩ (.slice C1 pl'.length l1))) FK3.out (Nat.le_refl _) hch.size)
 replace OK11 := Lib.hid (OK11.out.chg hch (fun x hx hx' => DK11.out x hx (by simp at hx'; subst hx'; simp)))
 replace FK11 := Lib.hid (fresh_mono (w' := (W3.setCell ⟨go, 2, none⟩ (.slice C1 pl'.length l1))) FK11.out (Nat.le_refl _) hch.size)
 replace OX := Lib.hid (OX.out.chg hch (fun x hx hx' => DX.out x hx (by simp at hx'; subst hx'; simp)))
 replace FX := Lib.hid (fresh_mono (w' := (W3.setCell ⟨go, 2, none⟩ (.slice C1 pl'.length l1))) FX.out (Nat.le_refl _) hch.size)
 replace hb : Below w.heap.size w (W3.setCell ⟨go, 2, none⟩ (.slice C1 pl'.length l1)) := Below.chg hb hch hb.size (by simp; omega)
 have hzc := hch.size
 clear hch
 generalize W3.setCell ⟨go, 2, none⟩ (.slice C1 pl'.length l1) = W4 at *
 have o4 := (Lo 4 _ rfl).1
 have c4 := (Lc 4 _ rfl).1
 have of4 := (Lo 4 _ rfl).2
 go_upto_region 5 with (fail)
 clear o4 c4 of4
 replace Lc := Lc.far (g := go) (i := 4) (u := .int .i64 (wrap64 (m - 4))) (by omega)
 replace Lr := Lr.far (g := go) (i := 4) (u := .int .i64 (wrap64 (m - 4))) (by omega)
 replace Lo : Loc (W4.setCell ⟨go, 4, none⟩ (.int .i64 (wrap64 (m - 4)))) (go) [.int .i64 n, .slice B1 cs.length k1, .slice C1 pl'.length l1, .slice B3 ds.length k3, .int .i64 (wrap64 (m - 4))] := Lo.set (i := 4) (v := .int .i64 m) rfl
 have hch : Chg [go] W4 (W4.setCell ⟨go, 4, none⟩ (.int .i64 (wrap64 (m - 4)))) := chg_set (Chg.refl _ _) (by simp)
 replace OK3 := Lib.hid (OK3.out.chg hch (fun x hx hx' => DK3.out x hx (by simp at hx'; subst hx'; simp)))
 replace FK3 := Lib.hid (fresh_mono (w' := (W4.setCell ⟨go, 4, none⟩ (.int .i64 (wrap64 (m - 4))))) FK3.out (Nat.le_refl _) hch.size)
 replace OK11 := Lib.hid (OK11.out.chg hch (fun x hx hx' => DK11.out x hx (by simp at hx'; subst hx'; simp)))
 replace FK11 := Lib.hid (fresh_mono (w' := (W4.setCell ⟨go, 4, none⟩ (.int .i64 (wrap64 (m - 4))))) FK11.out (Nat.le_refl _) hch.size)
 replace OX := Lib.hid (OX.out.chg hch (fun x hx hx' => DX.out x hx (by simp at hx'; subst hx'; simp)))
 replace FX := Lib.hid (fresh_mono (w' := (W4.setCell ⟨go, 4, none⟩ (.int .i64 (wrap64 (m - 4))))) FX.out (Nat.le_refl _) hch.size)
 replace hb : Below w.heap.size w (W4.setCell ⟨go, 4, none⟩ (.int .i64 (wrap64 (m - 4)))) := Below.chg hb hch hb.size (by simp; omega)
 have hzc := hch.size
 clear hch
 generalize W4.setCell ⟨go, 4, none⟩ (.int .i64 (wrap64 (m - 4))) = W5 at *
 replace FX := Lib.hid (fresh_mono (B' := w.heap.size + 1 + 1) FX.out (by omega) (Nat.le_refl _))
 have OC : OwCompany W5 (SK11 ++ SX) (.slice B1 cs.length k1) (.slice C1 pl'.length l1) cs pl' := ⟨_, _, rfl, OK11.out, OX.out⟩
 have FC := Lib.hid (fresh_join FK11.out FX.out (J1X.out))
 have DC : Hid (∀ x ∈ SK11 ++ SX, x ∉ [w.heap.size, w.heap.size + 1, go]) := (fun x hx => (List.mem_append.1 hx).elim (DK11.out x) (DX.out x))
 have OC := Lib.hid (OC)
 clear OK11 FK11 DK11 OX FX DX
 obtain ⟨SC, hSC⟩ : ∃ T, SK11 ++ SX = T := ⟨_, rfl⟩
 rw [hSC] at OC FC DC
 have JC3 : ∀ x ∈ SC, x ∉ SK3 := fun x hx => by
  rw [← hSC] at hx
  exact (List.mem_append.1 hx).elim (HJ13.out x) (JX3.out x)
 have HJC := Lib.hid JC3
 clear JC3 hSC
 have OP : OwTheatre W5 (SC ++ SK3) (.slice B1 cs.length k1) (.slice C1 pl'.length l1) (.slice B3 ds.length k3) cs pl' ds := ⟨_, _, rfl, OC.out, OK3.out⟩
 have FQ := Lib.hid (fresh_join FC.out FK3.out (HJC.out))
 have DQ : Hid (∀ x ∈ SC ++ SK3, x ∉ [w.heap.size, w.heap.size + 1, go]) := (fun x hx => (List.mem_append.1 hx).elim (DC.out x) (DK3.out x))
 have OQ := Lib.hid (OP)
 clear OC FC DC OK3 FK3 DK3
 obtain ⟨SQ, hSQ⟩ : ∃ T, SC ++ SK3 = T := ⟨_, rfl⟩
 rw [hSQ] at OQ FQ DQ
 clear hSQ
 clear OP
 have c0 := (Lc 0 _ rfl).1
 have c1 := (Lc 1 _ rfl).1
 have c2 := (Lc 2 _ rfl).1
 have c3 := (Lc 3 _ rfl).1
 have c4 := (Lc 4 _ rfl).1
 have o0 := (Lo 0 _ rfl).1
 have o1 := (Lo 1 _ rfl).1
 have o2 := (Lo 2 _ rfl).1
 have o3 := (Lo 3 _ rfl).1
 have o4 := (Lo 4 _ rfl).1
 go_wp2_with fail
 refine (becomes_eq (B := w.heap.size + 1 + 1) (S := SQ) Hres.out (h.below hb) hsz OQ.out FQ.out (by have := hb.size; omega)).mono ?_
 rintro e W6 ⟨z1, z2, z3, T, rfl, owr, fr, q⟩
 clear c0 c1 c2 c3 c4 o0 o1 o2 o3 o4
 obtain ⟨⟨Z1, e1, rfl⟩, ⟨Z2, e2, rfl⟩, ⟨Z3, e3, rfl⟩⟩ := owr.rd.forms
 have hzq : W5.heap.size ≤ W6.heap.size := by have := q.size; (try simp at this); omega
 replace Lc := Lc.below q
 replace Lr := Lr.below q
 replace Lo := Lo.below q
 replace OQ := Lib.hid (OQ.out.below q)
 replace FQ := Lib.hid (fresh_mono (w' := W6) FQ.out (Nat.le_refl _) hzq)
 replace hb : Below w.heap.size w W6 := hb.trans (q.mono hb.size)
 clear q
 have FR := Lib.hid fr
 have OR := Lib.hid owr
 clear fr owr Hres
 have r0 := (Lr 0 _ rfl).1
 have rf0 := (Lr 0 _ rfl).2
 have r1 := (Lr 1 _ rfl).1
 have rf1 := (Lr 1 _ rfl).2
 have r2 := (Lr 2 _ rfl).1
 have rf2 := (Lr 2 _ rfl).2
 have r3 := (Lr 3 _ rfl).1
 have rf3 := (Lr 3 _ rfl).2
 have r4 := (Lr 4 _ rfl).1
 have rf4 := (Lr 4 _ rfl).2
 go_wp2_with fail
 refine bodyPost_ret (v := .tuple #[.agg #[.int .i64 rn, .slice Z1 rcs.length e1, .slice Z2 rpl.length e2, .slice Z3 rds.length e3, .int .i64 rm], .bool rb]) (by simp [results, Tryz.results40, go_sem, *]) rfl ⟨_, _, _, T, rfl, ?_, ?_, ?_⟩
 ·exact OR.out.chg (T := [w.heap.size + 1]) (by repeat' (with_reducible first | exact Chg.refl _ _ | refine qC ?_)) (fun x hx hx' => by have := (FR.out.2 x hx).1; simp at hx'; omega)
 ·exact fresh_mono FR.out (by omega) (by simp)
 ·exact Below.chg hb (S := [w.heap.size + 1]) (by repeat' (with_reducible first | exact Chg.refl _ _ | refine qC ?_)) hb.size (fun x hx => by simp at hx; omega)
set_option maxHeartbeats 8000000 in
set_option maxRecDepth 100000 in
theorem specTeachPlayer_any (n m kx px : Int) (v1 v2 v3 : Value) (cs : List RCross) (pl : List RPl) (ds : List Int) (w : World) (h : RdTheatre w v1 v2 v3 cs pl ds) (hsz : szTheatre cs pl ds ≤ 1048576) :
  Calls Tryz.prog 61 #[.agg #[.int .i64 n, v1, v2, v3, .int .i64 m], .int .i64 kx, .int .i64 px] w (RetTh w.heap.size (teachT ⟨n, m, cs, pl, ds⟩ kx px) w) := by
 obtain ⟨⟨A1, n1, rfl⟩, ⟨A2, n2, rfl⟩, ⟨A3, n3, rfl⟩⟩ := h.forms
 have hszp : plsTot pl ≤ 1048576 := by unfold szTheatre szCompany at hsz; omega
 unfold teachT
 go_enter Tryz.func61, Tryz.ntmps61
 go_wp2_with fail
 refine (l38Copy_any n m _ _ _ cs pl ds _ (h.below (by (repeat' (with_reducible first | exact Below.refl _ _ | assumption | refine qS ?_ _ | refine qA ?_ _ | refine qD ?_ | refine qN ?_ _)))) hsz).mono ?_
 rintro e W1 ⟨x1, x2, x3, S, rfl, ow, f1, q⟩
 obtain ⟨⟨B1, k1, rfl⟩, ⟨B2, k2, rfl⟩, ⟨B3, k3, rfl⟩⟩ := ow.rd.forms
 have Lc : Loc W1 (w.heap.size) [.int .i64 n, .slice A1 cs.length n1, .slice A2 pl.length n2, .slice A3 ds.length n3, .int .i64 m] := by have := ((Loc.new w #[.int .i64 n, .slice A1 cs.length n1, .slice A2 pl.length n2, .slice A3 ds.length n3, .int .i64 m] 37).alloc _).below q; simpa using this
 have Lr : Loc W1 (w.heap.size + 1) [.int .i64 0, .slice none 0 0, .slice none 0 0, .slice none 0 0, .int .i64 0] := by have := (Loc.new (w.alloc (.cells #[.int .i64 n, .slice A1 cs.length n1, .slice A2 pl.length n2, .slice A3 ds.length n3, .int .i64 m] 37)) #[.int .i64 0, .slice none 0 0, .slice none 0 0, .slice none 0 0, .int .i64 0] 37).below q; simpa using this
 have hb : Below w.heap.size w W1 := Below.trans (by (repeat' (with_reducible first | exact Below.refl _ _ | assumption | refine qS ?_ _ | refine qA ?_ _ | refine qD ?_ | refine qN ?_ _))) (q.mono (by simp <;> omega))
 have hz0 : w.heap.size + 1 + 1 ≤ W1.heap.size := by have := q.size; simp at this; omega
 have hlow : w.heap.size + 1 + 1 ≤ (((w.alloc (.cells #[.int .i64 n, .slice A1 cs.length n1, .slice A2 pl.length n2, .slice A3 ds.length n3, .int .i64 m] 37)).alloc (.cells #[.int .i64 0, .slice none 0 0, .slice none 0 0, .slice none 0 0, .int .i64 0] 37))).heap.size := by first | exact Nat.le_refl _ | (simp; done) | (simp; omega) | omega
 have FK := Lib.hid (fresh_mono f1 hlow (Nat.le_refl _))
 have DK : Hid (∀ x ∈ S, x ∉ [w.heap.size, w.heap.size + 1]) := (fun x hx => by have := (FK.out.2 x hx).1; simp; omega)
 have OK := Lib.hid ow
 clear ow f1 hlow
 clear q
 go_upto_region 2 with (fail)
 replace Lc : Loc (W1.alloc (.cells #[.int .i64 n, .slice B1 cs.length k1, .slice B2 pl.length k2, .slice B3 ds.length k3, .int .i64 m] 37)) (w.heap.size) [.int .i64 n, .slice A1 cs.length n1, .slice A2 pl.length n2, .slice A3 ds.length n3, .int .i64 m] := Lc.alloc _
 replace Lr : Loc (W1.alloc (.cells #[.int .i64 n, .slice B1 cs.length k1, .slice B2 pl.length k2, .slice B3 ds.length k3, .int .i64 m] 37)) (w.heap.size + 1) [.int .i64 0, .slice none 0 0, .slice none 0 0, .slice none 0 0, .int .i64 0] := Lr.alloc _
 obtain ⟨go, hgo⟩ : ∃ g, W1.heap.size = g := ⟨_, rfl⟩
 have Lo : Loc (W1.alloc (.cells #[.int .i64 n, .slice B1 cs.length k1, .slice B2 pl.length k2, .slice B3 ds.length k3, .int .i64 m] 37)) W1.heap.size [.int .i64 n, .slice B1 cs.length k1, .slice B2 pl.length k2, .slice B3 ds.length k3, .int .i64 m] := Loc.new W1 #[.int .i64 n, .slice B1 cs.length k1, .slice B2 pl.length k2, .slice B3 ds.length k3, .int .i64 m] 37
 rw [hgo] at Lo
 replace OK := Lib.hid (OK.out.below (w' := (W1.alloc (.cells #[.int .i64 n, .slice B1 cs.length k1, .slice B2 pl.length k2, .slice B3 ds.length k3, .int .i64 m] 37))) ((Below.refl _ _).alloc (Nat.le_refl _) _))
 replace DK : Hid (∀ x ∈ S, x ∉ [w.heap.size, w.heap.size + 1, go]) := (fun x hx => by have := DK.out x hx; have := (FK.out.2 x hx).2; simp at *; omega)
 replace FK := Lib.hid (fresh_mono (w' := (W1.alloc (.cells #[.int .i64 n, .slice B1 cs.length k1, .slice B2 pl.length k2, .slice B3 ds.length k3, .int .i64 m] 37))) FK.out (Nat.le_refl _) (by simp))
 replace hb : Below w.heap.size w (W1.alloc (.cells #[.int .i64 n, .slice B1 cs.length k1, .slice B2 pl.length k2, .slice B3 ds.length k3, .int .i64 m] 37)) := hb.alloc hb.size _
 have hlto : go < (W1.alloc (.cells #[.int .i64 n, .slice B1 cs.length k1, .slice B2 pl.length k2, .slice B3 ds.length k3, .int .i64 m] 37)).heap.size := by simp; omega
 have hne_c_o : w.heap.size < go := by omega
 have hne_r_o : w.heap.size + 1 < go := by omega
 generalize W1.alloc (.cells #[.int .i64 n, .slice B1 cs.length k1, .slice B2 pl.length k2, .slice B3 ds.length k3, .int .i64 m] 37) = W2 at *
 rw [hgo]
 clear hgo
 obtain ⟨SK1, SK3, eK, oK, pK⟩ := OK.out
 have FKx := FK.out
 have DKx := DK.out
 rw [eK] at FKx DKx
 have OK1 := Lib.hid oK
 have OK3 := Lib.hid pK
 have FK1 := Lib.hid (fresh_left FKx)
 have FK3 := Lib.hid (fresh_right FKx)
 have DK1 : Hid (∀ x ∈ SK1, x ∉ [w.heap.size, w.heap.size + 1, go]) := (fun x hx => DKx x (List.mem_append_left _ hx))
 have DK3 : Hid (∀ x ∈ SK3, x ∉ [w.heap.size, w.heap.size + 1, go]) := (fun x hx => DKx x (List.mem_append_right _ hx))
 have JK : Hid (∀ x ∈ SK1, x ∉ SK3) := (nodup2 FKx.1).2.2.1
 clear OK FK DK FKx DKx oK pK
 obtain ⟨SK11, SK12, eK1, oK1, pK1⟩ := OK1.out
 have FK1x := FK1.out
 have DK1x := DK1.out
 rw [eK1] at FK1x DK1x
 have OK11 := Lib.hid oK1
 have OK12 := Lib.hid pK1
 have FK11 := Lib.hid (fresh_left FK1x)
 have FK12 := Lib.hid (fresh_right FK1x)
 have DK11 : Hid (∀ x ∈ SK11, x ∉ [w.heap.size, w.heap.size + 1, go]) := (fun x hx => DK1x x (List.mem_append_left _ hx))
 have DK12 : Hid (∀ x ∈ SK12, x ∉ [w.heap.size, w.heap.size + 1, go]) := (fun x hx => DK1x x (List.mem_append_right _ hx))
 have JK1 : Hid (∀ x ∈ SK11, x ∉ SK12) := (nodup2 FK1x.1).2.2.1
 clear OK1 FK1 DK1 FK1x DK1x oK1 pK1
 have hU1 : ∀ x ∈ SK11, x < W2.heap.size := fun x hx => (FK11.out.2 x hx).2
 have hU3 : ∀ x ∈ SK3, x < W2.heap.size := fun x hx => (FK3.out.2 x hx).2
 have hJ13 : ∀ x ∈ SK11, x ∉ SK3 := fun x hx hx' => JK.out x (by rw [eK1]; exact List.mem_append_left _ hx) hx'
 have HJ13 := Lib.hid hJ13
 clear hJ13
 have c2 := (Lc 2 _ rfl).1
 go_wp2_with fail
 refine (specTeachPuppet_any _ pl kx px _ ((h.below hb).1.2) hszp).mono ?_
 rintro e W3 ⟨x4, SX, rfl, ox, fx, q⟩
 clear c2
 obtain ⟨C1, l1, rfl, _, _⟩ := ox.rd.form
 have hzq : W2.heap.size ≤ W3.heap.size := by have := q.size; (try simp at this); omega
 replace Lc := Lc.below q
 replace Lr := Lr.below q
 replace Lo := Lo.below q
 replace OK3 := Lib.hid (OK3.out.below q)
 replace FK3 := Lib.hid (fresh_mono (w' := W3) FK3.out (Nat.le_refl _) hzq)
 replace OK11 := Lib.hid (OK11.out.below q)
 replace FK11 := Lib.hid (fresh_mono (w' := W3) FK11.out (Nat.le_refl _) hzq)
 replace OK12 := Lib.hid (OK12.out.below q)
 replace FK12 := Lib.hid (fresh_mono (w' := W3) FK12.out (Nat.le_refl _) hzq)
 replace hb : Below w.heap.size w W3 := hb.trans (q.mono hb.size)
 have hlow : W2.heap.size ≤ W2.heap.size := by first | exact Nat.le_refl _ | (simp; done) | (simp; omega) | omega
 have FX := Lib.hid (fresh_mono fx hlow (Nat.le_refl _))
 have DX : Hid (∀ x ∈ SX, x ∉ [w.heap.size, w.heap.size + 1, go]) := (fun x hx => by have := (FX.out.2 x hx).1; simp; omega)
 have OX := Lib.hid ox
 clear ox fx hlow
 clear q
 have hlt := teach_len pl kx px
 generalize (teachF pl kx px).2 = okc at *
 generalize (teachF pl kx px).1 = pl' at *
 clear hlt
 have J1X : Hid (∀ x ∈ SK11, x ∉ SX) := (fun x hx hx' => by have := (FX.out.2 x hx').1; have := hU1 x hx; omega)
 have JX3 : Hid (∀ x ∈ SX, x ∉ SK3) := (fun x hx hx' => by have := (FX.out.2 x hx).1; have := hU3 x hx'; omega)
 clear hU1 hU3
 clear OK12 FK12 DK12
 have o0 := (Lo 0 _ rfl).1
 have of0 := (Lo 0 _ rfl).2
 have o1 := (Lo 1 _ rfl).1
 have of1 := (Lo 1 _ rfl).2
 have o2 := (Lo 2 _ rfl).1
 have of2 := (Lo 2 _ rfl).2
 have o3 := (Lo 3 _ rfl).1
 have of3 := (Lo 3 _ rfl).2
 have o4 := (Lo 4 _ rfl).1
 have of4 := (Lo 4 _ rfl).2
 go_upto_region 4 with (fail)
 clear o0 of0 o1 of1 o2 of2 o3 of3 o4 of4
 replace Lc := Lc.far (g := go) (i := 2) (u := .slice C1 pl'.length l1) (by omega)
 replace Lr := Lr.far (g := go) (i := 2) (u := .slice C1 pl'.length l1) (by omega)
 replace Lo : Loc (W3.setCell ⟨go, 2, none⟩ (.slice C1 pl'.length l1)) (go) [.int .i64 n, .slice B1 cs.length k1, .slice C1 pl'.length l1, .slice B3 ds.length k3, .int .i64 m] := Lo.set (i := 2) (v := .slice B2 pl.length k2) rfl
 have hch : Chg [go] W3 (W3.setCell ⟨go, 2, none⟩ (.slice C1 pl'.length l1)) := chg_set (Chg.refl _ _) (by simp)
 replace OK3 := Lib.hid (OK3.out.chg hch (fun x hx hx' => DK3.out x hx (by simp at hx'; subst hx'; simp)))
 replace FK3 := Lib.hid (fresh_mono (w' := (W3.setCell ⟨go, 2, none⟩ (.slice C1 pl'.length l1))) FK3.out (Nat.le_refl _) hch.size)
 replace OK11 := Lib.hid (OK11.out.chg hch (fun x hx hx' => DK11.out x hx (by simp at hx'; subst hx'; simp)))
 replace FK11 := Lib.hid (fresh_mono (w' := (W3.setCell ⟨go, 2, none⟩ (.slice C1 pl'.length l1))) FK11.out (Nat.le_refl _) hch.size)
 replace OX := Lib.hid (OX.out.chg hch (fun x hx hx' => DX.out x hx (by simp at hx'; subst hx'; simp)))
 replace FX := Lib.hid (fresh_mono (w' := (W3.setCell ⟨go, 2, none⟩ (.slice C1 pl'.length l1))) FX.out (Nat.le_refl _) hch.size)
 replace hb : Below w.heap.size w (W3.setCell ⟨go, 2, none⟩ (.slice C1 pl'.length l1)) := Below.chg hb hch hb.size (by simp; omega)
 have hzc := hch.size
 clear hch
 generalize W3.setCell ⟨go, 2, none⟩ (.slice C1 pl'.length l1) = W4 at *
 have o4 := (Lo 4 _ rfl).1
 have c4 := (Lc 4 _ rfl).1
 have of4 := (Lo 4 _ rfl).2
 go_upto_region 5 with (fail)
 clear o4 c4 of4
 replace Lc := Lc.far (g := go) (i := 4) (u := .int .i64 (wrap64 (m - 4))) (by omega)
 replace Lr := Lr.far (g := go) (i := 4) (u := .int .i64 (wrap64 (m - 4))) (by omega)
 replace Lo : Loc (W4.setCell ⟨go, 4, none⟩ (.int .i64 (wrap64 (m - 4)))) (go) [.int .i64 n, .slice B1 cs.length k1, .slice C1 pl'.length l1, .slice B3 ds.length k3, .int .i64 (wrap64 (m - 4))] := Lo.set (i := 4) (v := .int .i64 m) rfl
 have hch : Chg [go] W4 (W4.setCell ⟨go, 4, none⟩ (.int .i64 (wrap64 (m - 4)))) := chg_set (Chg.refl _ _) (by simp)
 replace OK3 := Lib.hid (OK3.out.chg hch (fun x hx hx' => DK3.out x hx (by simp at hx'; subst hx'; simp)))
 replace FK3 := Lib.hid (fresh_mono (w' := (W4.setCell ⟨go, 4, none⟩ (.int .i64 (wrap64 (m - 4))))) FK3.out (Nat.le_refl _) hch.size)
 replace OK11 := Lib.hid (OK11.out.chg hch (fun x hx hx' => DK11.out x hx (by simp at hx'; subst hx'; simp)))
 replace FK11 := Lib.hid (fresh_mono (w' := (W4.setCell ⟨go, 4, none⟩ (.int .i64 (wrap64 (m - 4))))) FK11.out (Nat.le_refl _) hch.size)
 replace OX := Lib.hid (OX.out.chg hch (fun x hx hx' => DX.out x hx (by simp at hx'; subst hx'; simp)))
 replace FX := Lib.hid (fresh_mono (w' := (W4.setCell ⟨go, 4, none⟩ (.int .i64 (wrap64 (m - 4))))) FX.out (Nat.le_refl _) hch.size)
 replace hb : Below w.heap.size w (W4.setCell ⟨go, 4, none⟩ (.int .i64 (wrap64 (m - 4)))) := Below.chg hb hch hb.size (by simp; omega)
 have hzc := hch.size
 clear hch
 generalize W4.setCell ⟨go, 4, none⟩ (.int .i64 (wrap64 (m - 4))) = W5 at *
 replace FX := Lib.hid (fresh_mono (B' := w.heap.size + 1 + 1) FX.out (by omega) (Nat.le_refl _))
 have OC : OwCompany W5 (SK11 ++ SX) (.slice B1 cs.length k1) (.slice C1 pl'.length l1) cs pl' := ⟨_, _, rfl, OK11.out, OX.out⟩
 have FC := Lib.hid (fresh_join FK11.out FX.out (J1X.out))
 have DC : Hid (∀ x ∈ SK11 ++ SX, x ∉ [w.heap.size, w.heap.size + 1, go]) := (fun x hx => (List.mem_append.1 hx).elim (DK11.out x) (DX.out x))
 have OC := Lib.hid (OC)
 clear OK11 FK11 DK11 OX FX DX
 obtain ⟨SC, hSC⟩ : ∃ T, SK11 ++ SX = T := ⟨_, rfl⟩
 rw [hSC] at OC FC DC
 have JC3 : ∀ x ∈ SC, x ∉ SK3 := fun x hx => by
  rw [← hSC] at hx
  exact (List.mem_append.1 hx).elim (HJ13.out x) (JX3.out x)
 have HJC := Lib.hid JC3
 clear JC3 hSC
 have OP : OwTheatre W5 (SC ++ SK3) (.slice B1 cs.length k1) (.slice C1 pl'.length l1) (.slice B3 ds.length k3) cs pl' ds := ⟨_, _, rfl, OC.out, OK3.out⟩
 have FQ := Lib.hid (fresh_join FC.out FK3.out (HJC.out))
 have DQ : Hid (∀ x ∈ SC ++ SK3, x ∉ [w.heap.size, w.heap.size + 1, go]) := (fun x hx => (List.mem_append.1 hx).elim (DC.out x) (DK3.out x))
 have OQ := Lib.hid (OP)
 clear OC FC DC OK3 FK3 DK3
 obtain ⟨SQ, hSQ⟩ : ∃ T, SC ++ SK3 = T := ⟨_, rfl⟩
 rw [hSQ] at OQ FQ DQ
 clear hSQ
 clear OP
 have c0 := (Lc 0 _ rfl).1
 have c1 := (Lc 1 _ rfl).1
 have c2 := (Lc 2 _ rfl).1
 have c3 := (Lc 3 _ rfl).1
 have c4 := (Lc 4 _ rfl).1
 go_wp2_with fail
 refine twoB (specTheatreOk_any n m _ _ _ cs pl ds _ (h.below hb)) (fun W6 hq q => ?_) (fun W6 hq q => ?_)
 ·skip
  clear c0 c1 c2 c3 c4
  have hzq : W5.heap.size ≤ W6.heap.size := by have := q.size; (try simp at this); omega
  replace Lc := Lc.below q
  replace Lr := Lr.below q
  replace Lo := Lo.below q
  replace OQ := Lib.hid (OQ.out.below q)
  replace FQ := Lib.hid (fresh_mono (w' := W6) FQ.out (Nat.le_refl _) hzq)
  replace hb : Below w.heap.size w W6 := hb.trans (q.mono hb.size)
  clear q
  cases okc
  ·skip
   have c0 := (Lc 0 _ rfl).1
   have c1 := (Lc 1 _ rfl).1
   have c2 := (Lc 2 _ rfl).1
   have c3 := (Lc 3 _ rfl).1
   have c4 := (Lc 4 _ rfl).1
   go_wp2_with fail
   refine (l38Copy_any n m _ _ _ cs pl ds _ (h.below hb) hsz).mono ?_
   rintro e W7 ⟨y1, y2, y3, T, rfl, ow6, f6, q⟩
   clear c0 c1 c2 c3 c4
   obtain ⟨⟨D1, e1, rfl⟩, ⟨D2, e2, rfl⟩, ⟨D3, e3, rfl⟩⟩ := ow6.rd.forms
   have hzq : W6.heap.size ≤ W7.heap.size := by have := q.size; (try simp at this); omega
   replace Lc := Lc.below q
   replace Lr := Lr.below q
   replace Lo := Lo.below q
   replace OQ := Lib.hid (OQ.out.below q)
   replace FQ := Lib.hid (fresh_mono (w' := W7) FQ.out (Nat.le_refl _) hzq)
   replace hb : Below w.heap.size w W7 := hb.trans (q.mono hb.size)
   have hlow : W6.heap.size ≤ W6.heap.size := by first | exact Nat.le_refl _ | (simp; done) | (simp; omega) | omega
   have FZ := Lib.hid (fresh_mono f6 hlow (Nat.le_refl _))
   have DZ : Hid (∀ x ∈ T, x ∉ [w.heap.size, w.heap.size + 1, go]) := (fun x hx => by have := (FZ.out.2 x hx).1; simp; omega)
   have OZ := Lib.hid ow6
   clear ow6 f6 hlow
   clear q
   have r0 := (Lr 0 _ rfl).1
   have rf0 := (Lr 0 _ rfl).2
   have r1 := (Lr 1 _ rfl).1
   have rf1 := (Lr 1 _ rfl).2
   have r2 := (Lr 2 _ rfl).1
   have rf2 := (Lr 2 _ rfl).2
   have r3 := (Lr 3 _ rfl).1
   have rf3 := (Lr 3 _ rfl).2
   have r4 := (Lr 4 _ rfl).1
   have rf4 := (Lr 4 _ rfl).2
   go_wp2_with fail
   refine bodyPost_ret (v := .tuple #[.agg #[.int .i64 n, .slice D1 cs.length e1, .slice D2 pl.length e2, .slice D3 ds.length e3, .int .i64 m], .bool false]) (by simp [results, Tryz.results61, go_sem, *]) rfl (bec_f (by simp) ⟨_, _, _, T, rfl, ?_, ?_, ?_⟩)
   ·exact OZ.out.chg (T := [w.heap.size + 1]) (by repeat' (with_reducible first | exact Chg.refl _ _ | refine qC ?_)) (fun x hx hx' => DZ.out x hx (by simp at hx'; subst hx'; simp))
   ·exact fresh_mono FZ.out (by omega) (by simp)
   ·exact Below.chg hb (S := [w.heap.size + 1]) (by repeat' (with_reducible first | exact Chg.refl _ _ | refine qC ?_)) hb.size (fun x hx => by simp at hx; omega)
  ·skip
   have o0 := (Lo 0 _ rfl).1
   have o1 := (Lo 1 _ rfl).1
   have o2 := (Lo 2 _ rfl).1
   have o3 := (Lo 3 _ rfl).1
   have o4 := (Lo 4 _ rfl).1
   go_wp2_with fail
   refine twoB (specTheatreOk_any n (wrap64 (m - 4)) _ _ _ cs pl' ds _ OQ.out.rd) (fun W7 hq' q => ?_) (fun W7 hq' q => ?_)
   ·skip
    clear o0 o1 o2 o3 o4
    have hzq : W6.heap.size ≤ W7.heap.size := by have := q.size; (try simp at this); omega
    replace Lc := Lc.below q
    replace Lr := Lr.below q
    replace Lo := Lo.below q
    replace OQ := Lib.hid (OQ.out.below q)
    replace FQ := Lib.hid (fresh_mono (w' := W7) FQ.out (Nat.le_refl _) hzq)
    replace hb : Below w.heap.size w W7 := hb.trans (q.mono hb.size)
    clear q
    have o0 := (Lo 0 _ rfl).1
    have o1 := (Lo 1 _ rfl).1
    have o2 := (Lo 2 _ rfl).1
    have o3 := (Lo 3 _ rfl).1
    have o4 := (Lo 4 _ rfl).1
    have r0 := (Lr 0 _ rfl).1
    have rf0 := (Lr 0 _ rfl).2
    have r1 := (Lr 1 _ rfl).1
    have rf1 := (Lr 1 _ rfl).2
    have r2 := (Lr 2 _ rfl).1
    have rf2 := (Lr 2 _ rfl).2
    have r3 := (Lr 3 _ rfl).1
    have rf3 := (Lr 3 _ rfl).2
    have r4 := (Lr 4 _ rfl).1
    have rf4 := (Lr 4 _ rfl).2
    go_wp2_with fail
    refine bodyPost_ret (v := .tuple #[.agg #[.int .i64 n, .slice B1 cs.length k1, .slice C1 pl'.length l1, .slice B3 ds.length k3, .int .i64 (wrap64 (m - 4))], .bool true]) (by simp [results, Tryz.results61, go_sem, *]) rfl (bec_t ⟨hq.out, rfl, hq'.out⟩ ⟨_, _, _, SQ, rfl, ?_, ?_, ?_⟩)
    ·exact OQ.out.chg (T := [w.heap.size + 1]) (by repeat' (with_reducible first | exact Chg.refl _ _ | refine qC ?_)) (fun x hx hx' => DQ.out x hx (by simp at hx'; subst hx'; simp))
    ·exact fresh_mono FQ.out (by omega) (by simp)
    ·exact Below.chg hb (S := [w.heap.size + 1]) (by repeat' (with_reducible first | exact Chg.refl _ _ | refine qC ?_)) hb.size (fun x hx => by simp at hx; omega)
   ·skip
    clear o0 o1 o2 o3 o4
    have hzq : W6.heap.size ≤ W7.heap.size := by have := q.size; (try simp at this); omega
    replace Lc := Lc.below q
    replace Lr := Lr.below q
    replace Lo := Lo.below q
    replace OQ := Lib.hid (OQ.out.below q)
    replace FQ := Lib.hid (fresh_mono (w' := W7) FQ.out (Nat.le_refl _) hzq)
    replace hb : Below w.heap.size w W7 := hb.trans (q.mono hb.size)
    clear q
    have c0 := (Lc 0 _ rfl).1
    have c1 := (Lc 1 _ rfl).1
    have c2 := (Lc 2 _ rfl).1
    have c3 := (Lc 3 _ rfl).1
    have c4 := (Lc 4 _ rfl).1
    go_wp2_with fail
    refine (l38Copy_any n m _ _ _ cs pl ds _ (h.below hb) hsz).mono ?_
    rintro e W8 ⟨y1, y2, y3, T, rfl, ow6, f6, q⟩
    clear c0 c1 c2 c3 c4
    obtain ⟨⟨D1, e1, rfl⟩, ⟨D2, e2, rfl⟩, ⟨D3, e3, rfl⟩⟩ := ow6.rd.forms
    have hzq : W7.heap.size ≤ W8.heap.size := by have := q.size; (try simp at this); omega
    replace Lc := Lc.below q
    replace Lr := Lr.below q
    replace Lo := Lo.below q
    replace OQ := Lib.hid (OQ.out.below q)
    replace FQ := Lib.hid (fresh_mono (w' := W8) FQ.out (Nat.le_refl _) hzq)
    replace hb : Below w.heap.size w W8 := hb.trans (q.mono hb.size)
    have hlow : W7.heap.size ≤ W7.heap.size := by first | exact Nat.le_refl _ | (simp; done) | (simp; omega) | omega
    have FZ := Lib.hid (fresh_mono f6 hlow (Nat.le_refl _))
    have DZ : Hid (∀ x ∈ T, x ∉ [w.heap.size, w.heap.size + 1, go]) := (fun x hx => by have := (FZ.out.2 x hx).1; simp; omega)
    have OZ := Lib.hid ow6
    clear ow6 f6 hlow
    clear q
    have r0 := (Lr 0 _ rfl).1
    have rf0 := (Lr 0 _ rfl).2
    have r1 := (Lr 1 _ rfl).1
    have rf1 := (Lr 1 _ rfl).2
    have r2 := (Lr 2 _ rfl).1
    have rf2 := (Lr 2 _ rfl).2
    have r3 := (Lr 3 _ rfl).1
    have rf3 := (Lr 3 _ rfl).2
    have r4 := (Lr 4 _ rfl).1
    have rf4 := (Lr 4 _ rfl).2
    go_wp2_with fail
    refine bodyPost_ret (v := .tuple #[.agg #[.int .i64 n, .slice D1 cs.length e1, .slice D2 pl.length e2, .slice D3 ds.length e3, .int .i64 m], .bool false]) (by simp [results, Tryz.results61, go_sem, *]) rfl (bec_f (fun hh => absurd (show theatreB n (wrap64 (m - 4)) cs pl' ds = true from hh.2.2) (by rw [hq'.out]; simp)) ⟨_, _, _, T, rfl, ?_, ?_, ?_⟩)
    ·exact OZ.out.chg (T := [w.heap.size + 1]) (by repeat' (with_reducible first | exact Chg.refl _ _ | refine qC ?_)) (fun x hx hx' => DZ.out x hx (by simp at hx'; subst hx'; simp))
    ·exact fresh_mono FZ.out (by omega) (by simp)
    ·exact Below.chg hb (S := [w.heap.size + 1]) (by repeat' (with_reducible first | exact Chg.refl _ _ | refine qC ?_)) hb.size (fun x hx => by simp at hx; omega)
 ·skip
  clear c0 c1 c2 c3 c4
  have hzq : W5.heap.size ≤ W6.heap.size := by have := q.size; (try simp at this); omega
  replace Lc := Lc.below q
  replace Lr := Lr.below q
  replace Lo := Lo.below q
  replace OQ := Lib.hid (OQ.out.below q)
  replace FQ := Lib.hid (fresh_mono (w' := W6) FQ.out (Nat.le_refl _) hzq)
  replace hb : Below w.heap.size w W6 := hb.trans (q.mono hb.size)
  clear q
  have c0 := (Lc 0 _ rfl).1
  have c1 := (Lc 1 _ rfl).1
  have c2 := (Lc 2 _ rfl).1
  have c3 := (Lc 3 _ rfl).1
  have c4 := (Lc 4 _ rfl).1
  go_wp2_with fail
  refine (l38Copy_any n m _ _ _ cs pl ds _ (h.below hb) hsz).mono ?_
  rintro e W7 ⟨y1, y2, y3, T, rfl, ow6, f6, q⟩
  clear c0 c1 c2 c3 c4
  obtain ⟨⟨D1, e1, rfl⟩, ⟨D2, e2, rfl⟩, ⟨D3, e3, rfl⟩⟩ := ow6.rd.forms
  have hzq : W6.heap.size ≤ W7.heap.size := by have := q.size; (try simp at this); omega
  replace Lc := Lc.below q
  replace Lr := Lr.below q
  replace Lo := Lo.below q
  replace OQ := Lib.hid (OQ.out.below q)
  replace FQ := Lib.hid (fresh_mono (w' := W7) FQ.out (Nat.le_refl _) hzq)
  replace hb : Below w.heap.size w W7 := hb.trans (q.mono hb.size)
  have hlow : W6.heap.size ≤ W6.heap.size := by first | exact Nat.le_refl _ | (simp; done) | (simp; omega) | omega
  have FZ := Lib.hid (fresh_mono f6 hlow (Nat.le_refl _))
  have DZ : Hid (∀ x ∈ T, x ∉ [w.heap.size, w.heap.size + 1, go]) := (fun x hx => by have := (FZ.out.2 x hx).1; simp; omega)
  have OZ := Lib.hid ow6
  clear ow6 f6 hlow
  clear q
  have r0 := (Lr 0 _ rfl).1
  have rf0 := (Lr 0 _ rfl).2
  have r1 := (Lr 1 _ rfl).1
  have rf1 := (Lr 1 _ rfl).2
  have r2 := (Lr 2 _ rfl).1
  have rf2 := (Lr 2 _ rfl).2
  have r3 := (Lr 3 _ rfl).1
  have rf3 := (Lr 3 _ rfl).2
  have r4 := (Lr 4 _ rfl).1
  have rf4 := (Lr 4 _ rfl).2
  go_wp2_with fail
  refine bodyPost_ret (v := .tuple #[.agg #[.int .i64 n, .slice D1 cs.length e1, .slice D2 pl.length e2, .slice D3 ds.length e3, .int .i64 m], .bool false]) (by simp [results, Tryz.results61, go_sem, *]) rfl (bec_f (fun hh => absurd (show theatreB n m cs pl ds = true from hh.1) (by rw [hq.out]; simp)) ⟨_, _, _, T, rfl, ?_, ?_, ?_⟩)
  ·exact OZ.out.chg (T := [w.heap.size + 1]) (by repeat' (with_reducible first | exact Chg.refl _ _ | refine qC ?_)) (fun x hx hx' => DZ.out x hx (by simp at hx'; subst hx'; simp))
  ·exact fresh_mono FZ.out (by omega) (by simp)
  ·exact Below.chg hb (S := [w.heap.size + 1]) (by repeat' (with_reducible first | exact Chg.refl _ _ | refine qC ?_)) hb.size (fun x hx => by simp at hx; omega)
open Go.RowKit
theorem chg_low {w V W' : World} {g : Nat} {S : List Nat} (h : Chg [g] w V) (hc : Chg S V W') (hS : ∀ b ∈ S, b = g ∨ w.heap.size ≤ b) : Chg [g] w W' :=
 ⟨hc.os.trans h.os, hc.tape.trans h.tape, hc.output.trans h.output, Nat.le_trans h.size hc.size, fun k hk hn => (hc.block k (Nat.lt_of_lt_of_le hk h.size) (fun hm => (hS k hm).elim (fun e => hn (by simp [e])) (fun e => by omega))).trans (h.block k hk hn)⟩
theorem chg_drew {S : List Nat} {w w' : World} (h : Chg S w w') : Chg S w w'.drew := ⟨h.os, h.tape, h.output, h.size, h.block⟩
def CrossPost (w0 w : World) (g : Nat) (A : Option Addr) (c : Nat) (bs : List Int) (e : Ending) (w' : World) : Prop :=
 ∃ (n : Nat) (v : Value) (l : List RCross), e = .returned (.tuple #[.int .i64 n, v]) ∧ w'.ownsRow w.heap.size 85 2 v l.length (l.flatMap cCross) ∧ (2 ≤ n ∧ n ≤ 5) ∧ l.length ≤ 9 ∧ (∀ t ∈ l, 0 ≤ t.1 ∧ t.1 ≤ (n : Int) - 2) ∧ Cur w0 w' g A c bs ∧ Chg [g] w w'
set_option maxHeartbeats 4000000 in
set_option maxRecDepth 100000 in
theorem l08List_any (w0 w : World) (g : Nat) (A : Option Addr) (c : Nat) (bs : List Int) (hcur : Cur w0 w g A c bs) :
  Calls Tryz.prog 159 #[.pointer (some ⟨g, 0, none⟩)] w (CrossPost w0 w g A c bs) := by
 have hglt := hcur.lt
 have hw0 := hcur.below.size
 obtain ⟨i0, hi0, hz0, hz1, hz2⟩ := info_parts infoCross
 go_enter Tryz.func159, Tryz.ntmps159
 go_wp2_with fail
 refine (l01Below_any 4 w0 w g A c bs hcur (by omega) (by omega)).mono ?_
 rintro e w1 ⟨r, rfl, ⟨hr0, hr1⟩, hc1, hch1⟩
 obtain ⟨p, rfl⟩ := Int.eq_ofNat_of_zero_le hr0
 have hp4 : p < 4 := by omega
 have hz1' := hch1.size
 go_wp2_with fail
 have hn : 2 + (p : Int) = ((2 + p : Nat) : Int) := by omega
 try rw [hn]
 obtain ⟨n, hn'⟩ : ∃ n, 2 + p = n := ⟨_, rfl⟩
 have hn25 : 2 ≤ n ∧ n ≤ 5 := by omega
 try rw [hn']
 clear hn hn' hr0 hr1 hp4
 refine (l01Below_any 10 w0 _ g A c bs (hc1.keep ((Below.refl _ _).alloc (Nat.le_refl _) _)) (by omega) (by omega)).mono ?_
 rintro e w2 ⟨r2, rfl, ⟨hr20, hr21⟩, hc2, hch2⟩
 obtain ⟨m, rfl⟩ := Int.eq_ofNat_of_zero_le hr20
 have hm9 : m ≤ 9 := by omega
 have hown0 := own_chg (World.ownsRow_made (size := 2) (e := 85) w1 #[] 0 hz1' (by simp [maxLen]) rfl) hch2 (by simp [Value.ownBlock]; omega)
 have hch12 := (hch1.alloc (.cells #[] 85)).trans hch2
 clear hr20 hr21 hch1 hch2 hc1 hz1'
 go_wp2_with fail
 go_loopw [5, 6] (fun q i wr => ∃ (k : Nat) (l : List RCross), k ≤ m ∧ i = .int .i64 ((m - k : Nat) : Int) ∧ Hid (l.length = k) ∧ wr.ownsRow w.heap.size 85 2 q l.length (l.flatMap cCross) ∧ Hid (∀ t ∈ l, 0 ≤ t.1 ∧ t.1 ≤ (n : Int) - 2) ∧ Cur w0 wr g A c bs ∧ Chg [g] w wr) (fun _ i _ => (intOf i).toNat)
 case atStart => exact ⟨0, [], Nat.zero_le _, rfl, rfl, hown0, by simp [Hid], hc2, hch12⟩
 case round =>
  obtain ⟨k, l, hk, rfl, hl, hown, hval, hc, hch⟩ := hrel
  clear hown0 hc2 hch12
  have hzw := hch.size
  obtain ⟨Aq, cq, rfl, _, _⟩ := (RdS.of_own hown).form
  by_cases hlt : k < m
  ·obtain ⟨q, hq⟩ : ∃ q, m - k = q + 1 := ⟨m - k - 1, by omega⟩
   rw [hq]
   have Hm := Lib.hid hq
   have hll := hl.out
   have hl9 : l.length < 9 := by omega
   have hl' := Lib.hid hll
   have hq9 : q ≤ 9 := by omega
   clear hll hl hq
   go_wp2_with fail
   refine (l01Below_any ((n : Int) - 1) w0 wr g A c bs hc (by omega) (by omega)).mono ?_
   rintro e w3 ⟨xa, rfl, ⟨ha0, ha1⟩, hc3, hch3⟩
   have hown3 := own_draw hown hch3 hglt
   have hchw3 := hch.trans hch3
   have HA : Hid (0 ≤ xa ∧ xa ≤ (n : Int) - 2) := (by show _ ∧ _; omega)
   clear hown hc hch hch3 ha0 ha1
   go_wp2_with fail
   refine (l01Once_any 2 w0 w3 g A c bs hc3 (by omega) (by omega)).mono ?_
   rintro e w4 ⟨xf, rfl, hc4, hch4⟩
   have hown4 := own_draw hown3 hch4 hglt
   have hchw4 := hchw3.trans hch4
   have hz4 := hchw4.size
   clear hown3 hc3 hchw3 hch4
   go_upto_region 7 with (fail)
   have Lb : Loc (w4.alloc (.cells #[.int .i64 xa, .bool xf] 85)) w4.heap.size [.int .i64 xa, .bool xf] := Loc.new w4 #[.int .i64 xa, .bool xf] 85
   have hal : Below w4.heap.size w4 (w4.alloc (.cells #[.int .i64 xa, .bool xf] 85)) := (Below.refl _ _).alloc (Nat.le_refl _) _
   have hc5 := hc4.keep hal
   have hch5 := hchw4.trans (Chg.of_below hal _)
   have hown5 := own_below hown4 hal
   have hzb : w4.heap.size < (w4.alloc (.cells #[.int .i64 xa, .bool xf] 85)).heap.size := by simp
   have hgb : g ≠ w4.heap.size := by omega
   have hbw : w.heap.size ≤ w4.heap.size := hz4
   have hqb : ∀ b ∈ (Value.slice Aq l.length cq).ownBlock.toList, b ≠ w4.heap.size := fun b hb => by have := (hown4.lt b (by simpa using hb)).2; omega
   obtain ⟨xb, hxb⟩ : ∃ xb, w4.heap.size = xb := ⟨_, rfl⟩
   rw [hxb] at Lb hzb hgb hbw hqb
   generalize w4.alloc (.cells #[.int .i64 xa, .bool xf] 85) = V at *
   try rw [hxb]
   clear hal hc4 hchw4 hown4 hz4 hxb
   have HQB := Lib.hid hqb
   clear hqb
   by_cases h0 : 0 < l.length
   ·obtain ⟨t, ht⟩ : ∃ t, l.length = t + 1 := ⟨l.length - 1, by omega⟩
    have hd : decide (0 < l.length) = true := decide_eq_true h0
    have k0 := (Lb 0 _ rfl).1
    have k1 := (Lb 1 _ rfl).1
    have hdI : decide ((0 : Int) < (l.length : Int)) = true := decide_eq_true (by omega)
    have Ht := Lib.hid ht
    clear ht
    go_wp2_with fail
    refine (l01Once_any 3 w0 V g A c bs hc5 (by omega) (by omega)).mono ?_
    rintro e w6 ⟨b, rfl, hc6, hch6⟩
    have hown6 := own_draw hown5 hch6 hglt
    have Lb6 := Lb.chg hch6 (by simpa using hgb.symm)
    have hchw6 := hch5.trans hch6
    clear k0 k1 hown5 hc5 hch5 hch6 Lb
    cases b
    ·have HO := Lib.hid hown6
     have HC := Lib.hid hc6
     have HCH := Lib.hid hchw6
     have k0 := (Lb6 0 _ rfl).1
     have k1 := (Lb6 1 _ rfl).1
     clear hown6 hc6 hchw6
     have hownW := HO.out
     have hcW := HC.out
     have hchW := HCH.out
     go_wp2_with (at_builtin; refine wpList_appendR _ rfl (.tmp 48) (.tmp 50) _ rfl w.heap.size 85 i0 _ 2 16 Tryz.underlying32 hi0 hz0 hz1 hz2 rfl (by omega) _ l.length (l.flatMap cCross) rfl (hownW.alloc _) _ 1 [.int .i64 xa, .bool xf] rfl (rdS_new w6 #[.int .i64 xa, .bool xf] _ 2 1 rfl (by simp [maxLen])) (by simp [Value.oneCell']) (by simp [maxLen]; omega) (by omega) (by have := hchW.size; simp; omega) ?_; intro v3 w3 hown3 hgr3)
     have hch3 := chg_of_own (hchW.alloc (.cells #[.int .i64 xa, .bool xf] 85)) (hownW.alloc _) hgr3
     have hc3 := cur_own (hcW.keep ((Below.refl _ _).alloc (Nat.le_refl _) (.cells #[.int .i64 xa, .bool xf] 85))) (hownW.alloc _) hgr3 hglt hw0
     go_wp2_with fail
     go_roundw
     case rel =>
      refine ⟨k + 1, l ++ [(xa, xf)], by omega, int_eq (by have := Hm.out; omega), by show _ = _; rw [List.length_append, hl'.out]; rfl, ?_, ?_, hc3, hch3⟩
      ·rw [List.length_append, List.flatMap_append]; exact hown3
      ·intro t ht
       rcases List.mem_append.1 ht with h | h
       ·exact hval.out t h
       ·simp at h; subst h; exact HA.out
     case measure => simp [intOf]
    ·have k0 := (Lb6 0 _ rfl).1
     have k1 := (Lb6 1 _ rfl).1
     have f0 := (Lb6 0 _ rfl).2
     have f1 := (Lb6 1 _ rfl).2
     obtain ⟨gq, cq', e⟩ := own_form hown6 h0
     injection e with e1 e2 e3
     subst e1 e3
     clear e2
     have hq' : t < l.length := by have := Ht.out; omega
     obtain ⟨gq', oq, e, _, hcell⟩ := RdL.cell (RdS.of_own hown6) cCross_len (by omega) hq'
     injection e with e
     injection e with e1 e2 e3
     subst e1 e2
     clear e3
     have r0 := hcell 0 _ rfl
     have r1 := hcell 1 _ rfl
     simp only [Nat.add_zero, Nat.zero_add] at r0 r1
     have HV := Lib.hid (hval.out _ (List.getElem_mem hq'))
     have hw1 : IntKind.i64.wrap ((l.length : Int) - 1) = (t : Int) := by rw [IntWalk.i64_in _ (by omega)]; have := Ht.out; omega
     have ht1 : (t : Int) < (l.length : Int) := by omega
     have ht0 : (0 : Int) ≤ (t : Int) := by omega
     have htn : ((t : Int)).toNat = t := by omega
     clear hcell
     generalize l[t] = lt at *
     obtain ⟨la, lf⟩ := lt
     simp only at r0 r1
     go_wp2_with fail
     go_still_tail 16, (by kernel_rfl)
     change wpList _ _ _ _ _ w6.drew
     go_upto_region 9 with (fail)
     have hst : Chg [xb] w6 ((w6.setCell ⟨xb, 0, none⟩ (.int .i64 la)).setCell ⟨xb, 1, none⟩ (.bool !lf)).drew := chg_drew (by repeat' (with_reducible first | exact Chg.refl _ _ | refine qC ?_))
     have LbN := ((Lb6.set (i := 0) (u := .int .i64 la) (v := .int .i64 xa) rfl).set (i := 1) (u := .bool !lf) (v := .bool xf) rfl).drew
     have HC := Lib.hid (hc6.chg hst (by simpa using hgb) (by simp; omega))
     have HCH := Lib.hid (chg_low hchw6 hst (by simp; omega))
     have HO := Lib.hid (own_chg hown6 hst (fun b hb => by simpa using HQB.out b hb))
     clear k0 k1 f0 f1 r0 r1 hown6 hc6 hchw6 Lb6 hst hw1 ht1 ht0 htn HA
     generalize ((w6.setCell ⟨xb, 0, none⟩ (.int .i64 la)).setCell ⟨xb, 1, none⟩ (.bool !lf)).drew = W at *
     have k0 := (LbN 0 _ rfl).1
     have k1 := (LbN 1 _ rfl).1
     have hownW := HO.out
     have hcW := HC.out
     have hchW := HCH.out
     go_wp2_with (at_builtin; refine wpList_appendR _ rfl (.tmp 48) (.tmp 50) _ rfl w.heap.size 85 i0 _ 2 16 Tryz.underlying32 hi0 hz0 hz1 hz2 rfl (by omega) _ l.length (l.flatMap cCross) rfl (hownW.alloc _) _ 1 [.int .i64 la, .bool (!lf)] rfl (rdS_new W #[.int .i64 la, .bool (!lf)] _ 2 1 rfl (by simp [maxLen])) (by simp [Value.oneCell']) (by simp [maxLen]; omega) (by omega) (by have := hchW.size; simp; omega) ?_; intro v3 w3 hown3 hgr3)
     have hch3 := chg_of_own (hchW.alloc (.cells #[.int .i64 la, .bool (!lf)] 85)) (hownW.alloc _) hgr3
     have hc3 := cur_own (hcW.keep ((Below.refl _ _).alloc (Nat.le_refl _) (.cells #[.int .i64 la, .bool (!lf)] 85))) (hownW.alloc _) hgr3 hglt hw0
     go_wp2_with fail
     go_roundw
     case rel =>
      refine ⟨k + 1, l ++ [(la, (!lf))], by omega, int_eq (by have := Hm.out; omega), by show _ = _; rw [List.length_append, hl'.out]; rfl, ?_, ?_, hc3, hch3⟩
      ·rw [List.length_append, List.flatMap_append]; exact hown3
      ·intro t ht
       rcases List.mem_append.1 ht with h | h
       ·exact hval.out t h
       ·simp at h; subst h; exact HV.out
     case measure => simp [intOf]
   ·have hd : decide (0 < l.length) = false := decide_eq_false h0
    have k0 := (Lb 0 _ rfl).1
    have k1 := (Lb 1 _ rfl).1
    have HO := Lib.hid hown5
    have HC := Lib.hid hc5
    have HCH := Lib.hid hch5
    have hownW := HO.out
    have hcW := HC.out
    have hchW := HCH.out
    go_wp2_with (at_builtin; refine wpList_appendR _ rfl (.tmp 48) (.tmp 50) _ rfl w.heap.size 85 i0 _ 2 16 Tryz.underlying32 hi0 hz0 hz1 hz2 rfl (by omega) _ l.length (l.flatMap cCross) rfl (hownW.alloc _) _ 1 [.int .i64 xa, .bool xf] rfl (rdS_new V #[.int .i64 xa, .bool xf] _ 2 1 rfl (by simp [maxLen])) (by simp [Value.oneCell']) (by simp [maxLen]; omega) (by omega) (by have := hchW.size; simp; omega) ?_; intro v3 w3 hown3 hgr3)
    have hch3 := chg_of_own (hchW.alloc (.cells #[.int .i64 xa, .bool xf] 85)) (hownW.alloc _) hgr3
    have hc3 := cur_own (hcW.keep ((Below.refl _ _).alloc (Nat.le_refl _) (.cells #[.int .i64 xa, .bool xf] 85))) (hownW.alloc _) hgr3 hglt hw0
    go_wp2_with fail
    go_roundw
    case rel =>
     refine ⟨k + 1, l ++ [(xa, xf)], by omega, int_eq (by have := Hm.out; omega), by show _ = _; rw [List.length_append, hl'.out]; rfl, ?_, ?_, hc3, hch3⟩
     ·rw [List.length_append, List.flatMap_append]; exact hown3
     ·intro t ht
      rcases List.mem_append.1 ht with h | h
      ·exact hval.out t h
      ·simp at h; subst h; exact HA.out
    case measure => simp [intOf]
  ·obtain rfl : k = m := by omega
   rw [Nat.sub_self]
   have hl9 : l.length ≤ 9 := by have := hl.out; omega
   clear hl
   go_wp2_with fail
   go_ret2
   exact ⟨n, _, l, rfl, hown, hn25, hl9, hval.out, hc, hch⟩
def PickIPost (l : List Int) (w0 w : World) (g : Nat) (A : Option Addr) (c : Nat) (bs : List Int) (e : Ending) (w' : World) : Prop :=
 ∃ x ∈ l, e = .returned (.int .i64 x) ∧ Cur w0 w' g A c bs ∧ Chg [g] w w'
set_option maxHeartbeats 2000000 in
set_option maxRecDepth 100000 in
theorem l01PickInt_any (b : Nat) (l : List Int) (w0 w : World) (g : Nat) (A : Option Addr) (c : Nat) (bs : List Int) (hcur : Cur w0 w g A c bs)
  (hl : 0 < l.length ∧ l.length ≤ 256) (hb : b ≠ g) (hc : ∀ j (h : j < l.length), w.cell? ⟨b, j, none⟩ = some (.int .i64 l[j])) :
  Calls Tryz.prog 129 #[.pointer (some ⟨g, 0, none⟩), .slice (some ⟨b, 0, none⟩) l.length l.length] w (PickIPost l w0 w g A c bs) := by
 have HC := Lib.hid hc
 clear hc
 go_enter Tryz.func129, Tryz.ntmps129
 go_wp2_with fail
 refine (l01Below_any l.length w0 _ g A c bs hcur (by omega) (by omega)).mono ?_
 rintro e w1 ⟨r, rfl, ⟨hr0, hr1⟩, hc1, hch1⟩
 obtain ⟨n, rfl⟩ := Int.eq_ofNat_of_zero_le hr0
 have hn : n < l.length := by omega
 have k0 := carryChg hch1 (HC.out n hn) (by simpa using hb)
 have hm := Lib.hid (List.getElem_mem hn)
 generalize l[n] = s at *
 go_wp2_with fail
 go_ret
 exact ⟨s, hm.out, rfl, hc1, hch1⟩
def PlD (r : RPl) : Prop := strictB r.1 0 5 = true ∧ 0 ≤ r.2 ∧ r.2 ≤ 2
def AscTo (j : Nat) (l : List Int) : Prop := l.Pairwise (· < ·) ∧ (∀ x ∈ l, 0 ≤ x ∧ x < (j : Int)) ∧ l.length ≤ j
theorem AscTo.start : AscTo 0 [] := ⟨List.Pairwise.nil, by simp, Nat.le_refl _⟩
theorem AscTo.skip {j : Nat} {l : List Int} (h : AscTo j l) : AscTo (j + 1) l := ⟨h.1, fun x hx => by have := h.2.1 x hx; omega, Nat.le_succ_of_le h.2.2⟩
theorem AscTo.snoc {j : Nat} {l : List Int} (h : AscTo j l) : AscTo (j + 1) (l ++ [(j : Int)]) := by
 refine ⟨List.pairwise_append.2 ⟨h.1, List.pairwise_singleton _ _, fun a ha b hb => ?_⟩, fun x hx => ?_, by simpa using h.2.2⟩
 ·rw [List.mem_singleton] at hb; subst hb
  exact (h.2.1 a ha).2
 ·rcases List.mem_append.1 hx with hx | hx
  ·have := h.2.1 x hx; omega
  ·rw [List.mem_singleton] at hx; subst hx; omega
theorem AscTo.strict {l : List Int} (h : AscTo 6 l) : strictB l 0 5 = true := by
 rw [strictB, Bool.and_eq_true]
 exact ⟨asc_of_pairwise _ h.1, List.all_eq_true.2 (fun x hx => inB_iff.2 (by have := h.2.1 x hx; omega))⟩
def PlsPost (w0 w : World) (g : Nat) (A : Option Addr) (c : Nat) (bs : List Int) (e : Ending) (w' : World) : Prop :=
 ∃ (v : Value) (l : List RPl) (S : List Nat), e = .returned v ∧ OwPls w' S v l ∧ Fresh w.heap.size w' S ∧ (1 ≤ l.length ∧ l.length ≤ 5) ∧ (∀ r ∈ l, PlD r) ∧ Cur w0 w' g A c bs ∧ Chg [g] w w'
set_option maxHeartbeats 8000000 in
set_option maxRecDepth 100000 in
theorem l13List_any (w0 w : World) (g : Nat) (A : Option Addr) (c : Nat) (bs : List Int) (hcur : Cur w0 w g A c bs) :
  Calls Tryz.prog 160 #[.pointer (some ⟨g, 0, none⟩)] w (PlsPost w0 w g A c bs) := by
 have hglt := hcur.lt
 have hw0 := hcur.below.size
 obtain ⟨i0, hi0, hz0, hz1, hz2⟩ := info_parts infoInt
 obtain ⟨i1, hi1, hp0, hp1, hp2⟩ := info_parts infoPlayer
 go_enter Tryz.func160, Tryz.ntmps160
 go_wp2_with fail
 refine (l01Below_any 5 w0 _ g A c bs (hcur.keep ((Below.refl _ _).alloc (Nat.le_refl _) _)) (by omega) (by omega)).mono ?_
 rintro e w1 ⟨r, rfl, ⟨hr0, hr1⟩, hc1, hch1⟩
 obtain ⟨p, rfl⟩ := Int.eq_ofNat_of_zero_le hr0
 have hp4 : p ≤ 4 := by omega
 obtain ⟨hps0, hps1⟩ := pls_start w w.heap.size (Nat.le_refl _)
 have how0 := hps0.chg hch1 (by simp; omega)
 have hfr0 := fresh_mono hps1 (Nat.le_refl _) hch1.size
 have hchw1 := ((Chg.refl [g] w).alloc (.cells #[] 105)).trans hch1
 clear hps0 hps1 hch1 hr0 hr1
 go_wp2_with fail
 have hn : 1 + (p : Int) = ((1 + p : Nat) : Int) := by omega
 rw [hn]
 obtain ⟨n, hn'⟩ : ∃ n, 1 + p = n := ⟨_, rfl⟩
 have hn5 : 1 ≤ n ∧ n ≤ 5 := by omega
 rw [hn']
 clear hn hn' hp4
 go_loopw [3, 5] (fun q i wr => ∃ (k : Nat) (ll : List RPl) (S : List Nat), k ≤ n ∧ i = .int .i64 k ∧ OwPls wr S q ll ∧ Fresh w.heap.size wr S ∧ Hid (ll.length = k) ∧ Hid (∀ r ∈ ll, PlD r) ∧ Cur w0 wr g A c bs ∧ Chg [g] w wr) (fun _ i _ => n - (intOf i).toNat)
 case atStart => exact ⟨0, [], _, Nat.zero_le _, rfl, how0, hfr0, rfl, by simp [Hid], hc1, hchw1⟩
 case round =>
  obtain ⟨k, ll, S, hk, rfl, how, hfr, hll, hval, hc, hch⟩ := hrel
  clear how0 hfr0 hc1 hchw1
  have hzw := hch.size
  obtain ⟨Aq, cq, rfl, _, _⟩ := how.rd.form
  by_cases hlt : k < n
  ·have hll5 : ll.length ≤ 4 := by have := hll.out; omega
   obtain ⟨wo, rfl⟩ : ∃ wo : World, wo = wr := ⟨_, rfl⟩
   go_wp2_with fail
   refine (l01PickInt_any wo.heap.size [0, 1, 1, 2, 2] w0 _ g A c bs (hc.keep ((Below.refl _ _).alloc (Nat.le_refl _) _)) (by decide) (by have := hc.lt; omega) (fun j hj => by
    rw [cell_of_row _ wo.heap.size j _ _ (0, 0) (heap_alloc_new wo _)]
    match j, hj with
    | 0, _ => rfl
    | 1, _ => rfl
    | 2, _ => rfl
    | 3, _ => rfl
    | 4, _ => rfl
    | n + 5, h => exact absurd h (by simp))).mono ?_
   rintro e w2 ⟨fr, hfre, rfl, hc2, hch2⟩
   have hfr2 : 0 ≤ fr ∧ fr ≤ 2 := by simp at hfre; omega
   have hal : Below wo.heap.size wo (wo.alloc (.cells #[.int .i64 0, .int .i64 1, .int .i64 1, .int .i64 2, .int .i64 2] 3)) := (Below.refl _ _).alloc (Nat.le_refl _) _
   have how2 := (how.below hal).chg hch2 (fun b hb hb' => by have := (hfr.2 b hb).1; simp at hb'; omega)
   have hfr2' := fresh_mono hfr (Nat.le_refl _) (Nat.le_trans hal.size hch2.size)
   have hchw2 := (hch.trans (Chg.of_below hal [g])).trans hch2
   have hz2' := hchw2.size
   clear how hfr hc hch hch2 hal hfre
   go_wp2_with fail
   have Lb : Loc (w2.alloc (.cells #[.slice none 0 0, .int .i64 fr] 105)) w2.heap.size [.slice none 0 0, .int .i64 fr] := Loc.new w2 #[.slice none 0 0, .int .i64 fr] 105
   have hal : Below w2.heap.size w2 (w2.alloc (.cells #[.slice none 0 0, .int .i64 fr] 105)) := (Below.refl _ _).alloc (Nat.le_refl _) _
   have hc5 := hc2.keep hal
   have hch5 := hchw2.trans (Chg.of_below hal _)
   have how5 := how2.below hal
   have hfr5 := fresh_mono hfr2' (Nat.le_refl _) hal.size
   have HSP : Hid (∀ b ∈ S, b ∉ [g, w2.heap.size]) := fun b hb hb' => by have := hfr2'.2 b hb; simp at hb'; omega
   have hSlt : Hid (∀ b ∈ S, b < w2.heap.size) := fun b hb => (hfr2'.2 b hb).2
   have hgb : g ≠ w2.heap.size := by omega
   have hown5 : (w2.alloc (.cells #[.slice none 0 0, .int .i64 fr] 105)).ownsRow (w2.alloc (.cells #[.slice none 0 0, .int .i64 fr] 105)).heap.size 3 1 (.slice none 0 0) 0 [] := World.ownsRow_nil _ _ _ _
   have hzp : w2.heap.size + 1 ≤ (w2.alloc (.cells #[.slice none 0 0, .int .i64 fr] 105)).heap.size := by simp
   obtain ⟨pb, hpb⟩ : ∃ pb, w2.heap.size = pb := ⟨_, rfl⟩
   rw [hpb] at Lb HSP hSlt hgb hzp hz2'
   generalize w2.alloc (.cells #[.slice none 0 0, .int .i64 fr] 105) = V at *
   try rw [hpb]
   clear hal hc2 hchw2 how2 hfr2' hpb
   have HOW := Lib.hid how5
   have HFR := Lib.hid hfr5
   have HCH := Lib.hid hch5
   clear how5 hfr5 hch5
   go_loopw [7] (fun i wi => ∃ (j : Nat) (v : Value) (l : List Int), j ≤ 6 ∧ i = .int .i64 j ∧ Loc wi pb [v, .int .i64 fr] ∧ wi.ownsRow V.heap.size 3 1 v l.length (l.flatMap cInt) ∧ Hid (AscTo j l) ∧ Cur w0 wi g A c bs ∧ Chg [g, pb] V wi) (fun i _ => 6 - (intOf i).toNat)
   case atStart => exact ⟨0, _, [], by omega, rfl, Lb, hown5, AscTo.start, hc5, Chg.refl _ _⟩
   case round =>
    obtain ⟨j, v, l, hj, rfl, Lj, hown, hasc, hc, hch⟩ := hrel
    clear Lb hown5 hc5
    obtain ⟨Av, cv, rfl, _, _⟩ := (RdS.of_own hown).form
    have hzi := hch.size
    by_cases hj6 : j < 6
    ·have hl6 : l.length ≤ 6 := by have := hasc.out.2.2; omega
     go_wp2_with fail
     refine (l01Once_any 2 w0 wr g A c bs hc (by omega) (by omega)).mono ?_
     rintro e w6 ⟨b, rfl, hc6, hch6⟩
     have Lj6 := Lj.chg hch6 (by simpa using hgb.symm)
     have hown6 := own_draw hown hch6 (by omega)
     have hchw6 : Chg [g, pb] V w6 := hch.trans (hch6.mono (by simp))
     have hz6 := hchw6.size
     clear Lj hown hc hch hch6
     cases b
     ·go_wp2_with fail
      go_roundw
      case rel => exact ⟨j + 1, _, l, by omega, by go_num, Lj6, hown6, hasc.out.skip, hc6, hchw6⟩
      case measure => simp [intOf]; omega
     ·have p0 := (Lj6 0 _ rfl).1
      go_wp2_with (at_builtin; go_must (refine wpList_appendR _ rfl (.tmp 28) (.tmp 30) _ rfl V.heap.size 3 i0 _ 1 8 Tryz.underlying26 hi0 hz0 hz1 hz2 rfl (by omega) _ l.length (l.flatMap cInt) rfl (hown6.alloc _) _ 1 [.int .i64 j] rfl (rdS_new w6 #[.int .i64 j] _ 1 1 rfl (by simp [maxLen])) (by simp [Value.oneCell']) (by simp [maxLen]; omega) (by omega) (by simp; omega) ?_); intro v3 w3 hown3 hgr3; obtain ⟨A3, c3, rfl, _, _⟩ := (RdS.of_own hown3).form; go_must (have Lj3 := (Lj6.alloc (.cells #[.int .i64 j] 3)).chg (Chg.of_grown (v := .slice Av l.length cv) hgr3) (fun hm => by have := ((hown6.alloc (.cells #[.int .i64 j] 3)).lt _ (by simpa using hm)).1; omega)); have q0 := (Lj3 0 _ rfl).1; have q1 := (Lj3 0 _ rfl).2; clear p0)
      have hch3 : Chg [g, pb] V w3 := chg_of_own (hchw6.alloc (.cells #[.int .i64 j] 3)) (hown6.alloc (.cells #[.int .i64 j] 3)) hgr3
      have hst : Chg [pb] w3 (w3.setCell ⟨pb, 0, none⟩ (.slice A3 (l.length + 1) c3)) := chg_set (Chg.refl _ _) (by simp)
      have hc3 := (cur_own (hc6.keep ((Below.refl _ _).alloc (Nat.le_refl _) (.cells #[.int .i64 j] 3))) (hown6.alloc (.cells #[.int .i64 j] 3)) hgr3 (by omega) (by omega)).chg hst (by simpa using hgb) (by simp; omega)
      have LbN := Lj3.set (i := 0) (u := .slice A3 (l.length + 1) c3) (v := .slice Av l.length cv) rfl
      have hownN := own_chg hown3 hst (fun b hb hb' => by have := (hown3.lt b (by simpa using hb)).1; simp at hb'; omega)
      go_roundw
      case rel =>
       refine ⟨j + 1, _, l ++ [(j : Int)], by omega, by go_num, LbN, ?_, hasc.out.snoc, hc3, hch3.trans (hst.mono (by simp))⟩
       rw [List.length_append, List.flatMap_append]; exact hownN
      case measure => simp [intOf]; omega
    ·obtain rfl : j = 6 := by omega
     have hl6 := hasc.out.2.2
     have how6 := HOW.out.chg hch HSP.out
     have hfr6 := fresh_mono HFR.out (Nat.le_refl _) hch.size
     obtain ⟨vs, hvl, hownq, hrows, hSe⟩ := how6
     have hown1 : wr.ownsRow w.heap.size 105 2 (.slice Aq ll.length cq) ll.length (vs.flatMap cPl) := by
      have := own_up hownq (fun b hb => hfr6.2 b (by rw [hSe]; exact List.mem_append_left _ hb))
      rwa [hvl] at this
     have Hvl := Lib.hid hvl
     have Hrows := Lib.hid hrows
     have HFP := Lib.hid hfr6
     have HSe := Lib.hid hSe
     have hchF := chg_low HCH.out hch (by simp; omega)
     have hzF := hchF.size
     have p0 := (Lj 0 _ rfl).1
     have p1 := (Lj 1 _ rfl).1
     have bA : Below wr.heap.size wr (wr.alloc (.cells #[.slice Av l.length cv, .int .i64 fr] 105)) := (Below.refl _ _).alloc (Nat.le_refl _) _
     have hkE : OwL 3 cInt 1 (wr.alloc (.cells #[.slice Av l.length cv, .int .i64 fr] 105)) _ (.slice Av l.length cv) l := OwL.mk_ (own_below hown bA)
     have hfE : Fresh w.heap.size (wr.alloc (.cells #[.slice Av l.length cv, .int .i64 fr] 105)) (Value.slice Av l.length cv).ownBlock.toList := fresh_mono (fresh_of hown) (by omega) bA.size
     have hdE : ∀ b ∈ (Value.slice Aq ll.length cq).ownBlock.toList ++ plBlocks vs, b ∉ (Value.slice Av l.length cv).ownBlock.toList := fun b hb hb' => by
      have h1 := hSlt.out b (by rw [HSe.out]; exact hb)
      have h2 := (hown.lt b (by simpa using hb')).1
      omega
     clear hvl hrows hownq hfr6 hSe
     go_wp2_with (at_builtin; go_must (refine wpList_appendB _ rfl (.tmp 33) (.tmp 35) _ rfl w.heap.size 105 i1 _ 2 32 Tryz.underlying33 hi1 hp0 hp1 hp2 rfl (by omega) _ ll.length (vs.flatMap cPl) rfl (hown1.alloc _) _ 1 [.slice Av l.length cv, .int .i64 fr] rfl (rdS_new wr #[.slice Av l.length cv, .int .i64 fr] _ 2 1 rfl (by simp [maxLen])) (by simp [Value.oneCell']) (by simp [maxLen]; omega) (by omega) (by simp; omega) ?_); intro v3 w3 own3 gr3 at3)
     have hsn := pls_snoc (B := w.heap.size) (w := wr.alloc (.cells #[.slice Av l.length cv, .int .i64 fr] 105)) (w' := w3) (q := .slice Aq ll.length cq) (u := .slice Av l.length cv) (r := l) (n := fr) (ll := ll) Hvl.out (fun i p r hp hr => ⟨(Hrows.out i p r hp hr).1, own_below (Hrows.out i p r hp hr).2 bA⟩) (by rw [← HSe.out]; exact fresh_mono HFP.out (Nat.le_refl _) bA.size) hkE hfE hdE (by rw [Hvl.out]; exact own3) gr3 at3
     have hch3 := chg_of_own (hchF.alloc (.cells #[.slice Av l.length cv, .int .i64 fr] 105)) (hown1.alloc (.cells #[.slice Av l.length cv, .int .i64 fr] 105)) gr3
     have hc3 := cur_own (hc.keep bA) (hown1.alloc (.cells #[.slice Av l.length cv, .int .i64 fr] 105)) gr3 hglt hw0
     go_wp2_with fail
     go_roundw
     case rel =>
      refine ⟨k + 1, ll ++ [(l, fr)], _, by omega, by go_num, hsn.1, hsn.2, by show _ = _; rw [List.length_append, hll.out]; rfl, ?_, hc3, hch3⟩
      intro r hr
      rcases List.mem_append.1 hr with hr | hr
      ·exact hval.out r hr
      ·simp at hr; subst hr; exact ⟨hasc.out.strict, hfr2⟩
     case measure => simp [intOf]; omega
  ·obtain rfl : k = n := by omega
   go_wp2_with fail
   go_ret
   exact ⟨_, ll, S, rfl, how, hfr, by have := hll.out; omega, hval.out, hc, hch⟩
open Go.RowKit
theorem getD_app {l : List Int} {d : Int} {k : Nat} (h : k < l.length) : (l ++ [d]).getD k 0 = l.getD k 0 := by
 rw [List.getD_eq_getElem?_getD, List.getD_eq_getElem?_getD, List.getElem?_append_left h]
theorem getD_app_end (l : List Int) (d : Int) : (l ++ [d]).getD l.length 0 = d := by
 rw [List.getD_eq_getElem?_getD, List.getElem?_append_right (Nat.le_refl _), Nat.sub_self]; rfl
theorem runR_app (l : List Int) (d : Int) : ∀ k, k ≤ l.length → runR (l ++ [d]) k = runR l k := by
 intro k
 induction k with
 | zero => intro _; rfl
 | succ k ih =>
  intro hk
  rw [runR, runR, ih (by omega), getD_app (by omega), getD_app (by omega)]
theorem runB_app (l : List Int) (d : Int) : ∀ k, k ≤ l.length → runB (l ++ [d]) k = runB l k := by
 intro k
 induction k with
 | zero => intro _; rfl
 | succ k ih =>
  intro hk
  rw [runB, runB, ih (by omega), runR_app l d _ hk]
def mostStep (st : List Int × Nat) (d : Int) : List Int × Nat :=
 if (if st.1.length = 0 ∨ st.1.getD (st.1.length - 1) 0 ≠ d - 1 then 0 else st.2) = 5 then (st.1, 5)
 else (st.1 ++ [d], (if st.1.length = 0 ∨ st.1.getD (st.1.length - 1) 0 ≠ d - 1 then 0 else st.2) + 1)
theorem mostStep_new {out : List Int} {r : Nat} {d : Int} (h : out.length = 0 ∨ out.getD (out.length - 1) 0 ≠ d - 1) : mostStep (out, r) d = (out ++ [d], 1) := by
 unfold mostStep
 simp only
 rw [if_pos h, if_neg (by omega)]
theorem mostStep_skip {out : List Int} {d : Int} (h : ¬ (out.length = 0 ∨ out.getD (out.length - 1) 0 ≠ d - 1)) : mostStep (out, 5) d = (out, 5) := by
 unfold mostStep
 simp only
 rw [if_neg h, if_pos rfl]
theorem mostStep_run {out : List Int} {r : Nat} {d : Int} (h : ¬ (out.length = 0 ∨ out.getD (out.length - 1) 0 ≠ d - 1)) (h5 : r ≠ 5) : mostStep (out, r) d = (out ++ [d], r + 1) := by
 unfold mostStep
 simp only
 rw [if_neg h, if_neg h5]
def mostTo (l : List Int) (k : Nat) : List Int × Nat := (l.take k).foldl mostStep ([], 0)
def mostL (l : List Int) : List Int := (mostTo l l.length).1
theorem mostTo_succ (l : List Int) {k : Nat} (h : k < l.length) : mostTo l (k + 1) = mostStep (mostTo l k) l[k] := foldl_take_succ _ _ l h
structure MostOk (l : List Int) (k : Nat) (st : List Int × Nat) : Prop where
 asc : st.1.Pairwise (· < ·)
 mem : ∀ x ∈ st.1, x ∈ l.take k
 len : st.1.length ≤ k
 row : runR st.1 st.1.length = st.2
 five : st.2 ≤ 5
 best : runB st.1 st.1.length ≤ 5
theorem MostOk.step {l : List Int} {k : Nat} {st : List Int × Nat} (h : MostOk l k st) (hk : k < l.length) (hl : l.Pairwise (· < ·)) : MostOk l (k + 1) (mostStep st l[k]) := by
 obtain ⟨out, r⟩ := st
 obtain ⟨h1, h2, h3, h4, h5, h6⟩ := h
 simp only at h1 h2 h3 h4 h5 h6
 have ht := take_snoc_l l hk
 have hnew : ∀ x ∈ out, x < l[k] := fun x hx => by
  have := h2 x hx
  obtain ⟨i, hi, e⟩ := List.getElem_of_mem this
  rw [List.getElem_take] at e
  rw [← e]
  exact List.pairwise_iff_getElem.1 hl i k _ hk (by simp at hi; omega)
 have hkeep : ∀ x ∈ out, x ∈ l.take (k + 1) := fun x hx => by rw [ht]; exact List.mem_append_left _ (h2 x hx)
 have happ : ∀ r', (r' = (if out.length = 0 ∨ out.getD (out.length - 1) 0 ≠ l[k] - 1 then 0 else r)) → r' ≠ 5 → MostOk l (k + 1) (out ++ [l[k]], r' + 1) := by
  intro r' hr' hne
  have hrun : runR (out ++ [l[k]]) (out.length + 1) = r' + 1 := by
   rw [runR, runR_app _ _ _ (Nat.le_refl _), getD_app_end]
   by_cases h0 : out.length = 0
   ·rw [if_pos (.inl h0)] at hr'
    rw [if_neg (by omega), hr']
   ·rw [getD_app (by omega)]
    by_cases hd : out.getD (out.length - 1) 0 = l[k] - 1
    ·rw [if_neg (by rintro (e | e); exact h0 e; exact e hd)] at hr'
     rw [if_pos ⟨by omega, by omega⟩, h4, hr']
    ·rw [if_pos (.inr hd)] at hr'
     rw [if_neg (by omega), hr']
  have hr5 : r' ≤ 5 := by rw [hr']; split <;> omega
  refine ⟨List.pairwise_append.2 ⟨h1, List.pairwise_singleton _ _, fun a ha b hb => ?_⟩, fun x hx => ?_, by simpa using h3, ?_, by simp only; omega, ?_⟩
  ·rw [List.mem_singleton] at hb; subst hb; exact hnew a ha
  ·rcases List.mem_append.1 hx with hx | hx
   ·exact hkeep x hx
   ·rw [ht]; exact List.mem_append_right _ hx
  ·simp only [List.length_append, List.length_singleton]; exact hrun
  ·simp only [List.length_append, List.length_singleton]
   rw [runB, runB_app _ _ _ (Nat.le_refl _), hrun]
   omega
 unfold mostStep
 simp only
 by_cases hr : (if out.length = 0 ∨ out.getD (out.length - 1) 0 ≠ l[k] - 1 then 0 else r) = 5
 ·rw [if_pos hr]
  have : r = 5 := by
   by_cases hc : out.length = 0 ∨ out.getD (out.length - 1) 0 ≠ l[k] - 1
   ·rw [if_pos hc] at hr; omega
   ·rw [if_neg hc] at hr; exact hr
  subst this
  exact ⟨h1, hkeep, by simp only; omega, h4, Nat.le_refl _, h6⟩
 ·rw [if_neg hr]
  exact happ _ rfl hr
theorem mostTo_ok {l : List Int} (hl : l.Pairwise (· < ·)) : ∀ k, k ≤ l.length → MostOk l k (mostTo l k) := by
 intro k
 induction k with
 | zero => intro _; exact ⟨List.Pairwise.nil, by simp [mostTo], Nat.le_refl _, rfl, Nat.zero_le _, Nat.zero_le _⟩
 | succ k ih => intro hk; rw [mostTo_succ l (by omega)]; exact (ih (by omega)).step (by omega) hl
theorem most_len {l : List Int} (hs : seasonB l = true) : (mostL l).length ≤ l.length := by
 have hst : strictB l 0 365 = true := by rw [season_t (season_bd hs).1] at hs; exact hs
 exact (mostTo_ok (strict_lt hst).1 l.length (Nat.le_refl _)).len
theorem most_keeps {l : List Int} (hs : seasonB l = true) : keepsB (mostL l) 5 = true := by
 have hbd := season_bd hs
 have hst : strictB l 0 365 = true := by rw [season_t hbd.1] at hs; exact hs
 have hl := (strict_lt hst).1
 have ho := mostTo_ok hl l.length (Nat.le_refl _)
 have hsea : seasonB (mostL l) = true := by
  have hlen : (mostL l).length ≤ 60 := Nat.le_trans ho.len hbd.1
  rw [season_t hlen, strictB, Bool.and_eq_true]
  refine ⟨asc_of_pairwise _ ho.asc, List.all_eq_true.2 (fun x hx => inB_iff.2 ?_)⟩
  have := ho.mem x hx
  rw [List.take_length] at this
  exact hbd.2 x this
 rw [keepsB, Bool.and_eq_true, Bool.and_eq_true]
 refine ⟨⟨hsea, by decide⟩, decide_eq_true ?_⟩
 rw [runF_t hsea]
 have := ho.best
 unfold mostL
 omega
set_option maxHeartbeats 8000000 in
set_option maxRecDepth 100000 in
theorem mostShows_any (v : Value) (l : List Int) (w : World) (h : RdL cInt 1 w v l) (hs : seasonB l = true) :
  Calls Tryz.prog 127 #[v, .int .i64 5] w fun e w' => ∃ v', e = .returned v' ∧ w'.ownsRow w.heap.size 3 1 v' (mostL l).length ((mostL l).flatMap cInt) ∧ Below w.heap.size w w' := by
 have h0 := h
 obtain ⟨A, c, rfl, h1, h2⟩ := h.form
 obtain ⟨i0, hi0, hz0, hz1, hz2⟩ := info_parts infoInt
 have hbd := season_bd hs
 have HBD := Lib.hid hbd.2
 have hl60 := hbd.1
 have hst : strictB l 0 365 = true := by have := season_t hbd.1; rw [← this]; exact hs
 have HL := Lib.hid (strict_lt hst).1
 have hal : Below w.heap.size w (w.alloc (.cells #[] 3)) := (Below.refl _ _).alloc (Nat.le_refl _) _
 have hown0 : (w.alloc (.cells #[] 3)).ownsRow w.heap.size 3 1 (.slice (some ⟨w.heap.size, 0, none⟩) 0 0) 0 [] := World.ownsRow_made (size := 1) (e := 3) w #[] 0 (Nat.le_refl _) (by simp [maxLen]) rfl
 have hSO := specSeasonOk_any (.slice A l.length c) l _ (h0.below hal)
 rw [hs] at hSO
 have hIN := fun W => l01In_any 5 1 60 W
 have hin : inB 5 1 60 = true := by decide
 rw [hin] at hIN
 clear hbd hst hin hs
 go_enter Tryz.func127, Tryz.ntmps127
 go_wp2_with fail
 refine hSO.mono ?_
 rintro e w1 ⟨rfl, hb1⟩
 have hown1 := own_below hown0 hb1
 have hbw1 : Below w.heap.size w w1 := bl_trans hal hb1
 clear hSO hown0 hal hb1
 go_wp2_with (go_at_call 85; refine (hIN _).mono ?_; rintro e w2 ⟨rfl, rfl⟩)
 go_loopw [5, 6, 7] (fun q r i wr => ∃ (k : Nat) (out : List Int) (row : Nat), k ≤ l.length ∧ i = .int .i64 k ∧ r = .int .i64 row ∧ Hid (mostTo l k = (out, row)) ∧ wr.ownsRow w.heap.size 3 1 q out.length (out.flatMap cInt) ∧ Below w.heap.size w wr) (fun _ _ i _ => l.length - (intOf i).toNat)
 case atStart => exact ⟨0, [], 0, Nat.zero_le _, rfl, rfl, rfl, hown1, hbw1⟩
 case round =>
  obtain ⟨k, out, row, hk, rfl, rfl, hmt, hown, hb⟩ := hrel
  clear hown1 hbw1 hIN
  have HOK : Hid (MostOk l k (out, row)) := by have := mostTo_ok HL.out k hk; rw [hmt.out] at this; exact this
  have hrow5 : row ≤ 5 := HOK.out.five
  have holen : out.length ≤ 60 := by have := HOK.out.len; simp only at this; omega
  obtain ⟨Aq, cq, rfl, hoc, hocc⟩ := (RdS.of_own hown).form
  by_cases hlt : k < l.length
  ·obtain ⟨g, off, rfl, hg, hcell⟩ := (h0.below hb).cell cInt_len (by omega) hlt
   have d0 := hcell 0 _ rfl
   simp only [Nat.add_zero, Nat.mul_one] at d0
   clear hcell
   have hd := HBD.out _ (List.getElem_mem hlt)
   have HS := Lib.hid (mostTo_succ l hlt)
   rw [hmt.out] at HS
   generalize l[k] = d at *
   have hwd : IntKind.i64.wrap (d - 1) = d - 1 := IntWalk.i64_in _ (by omega)
   by_cases h0l : out.length = 0
   ·have hz : ((out.length : Int) == 0) = true := by rw [beq_iff_eq]; omega
    have HE : Hid (mostTo l (k + 1) = (out ++ [d], 1)) := by
     show _ = _
     rw [HS.out]; exact mostStep_new (.inl h0l)
    clear h0l
    go_wp2_with fail
    go_quiet (fail)
    rename_i nq
    have hbq : Below wr.heap.size wr (wr.drewN nq) := below_drewN (Below.refl _ _) nq
    have hown2 := own_below hown hbq
    have hb2 := bl_trans hb hbq
    replace d0 := carry hbq d0
    generalize wr.drewN nq = wq at *
    clear hown hbq
    go_wp2_with (at_builtin; go_must (refine wpList_appendR _ rfl (.tmp 47) (.tmp 52) _ rfl w.heap.size 3 i0 _ 1 8 Tryz.underlying26 hi0 hz0 hz1 hz2 rfl (by omega) _ out.length (out.flatMap cInt) rfl (hown2.alloc _) _ 1 [.int .i64 d] rfl (rdS_new wq #[.int .i64 d] _ 1 1 rfl (by simp [maxLen])) (by simp [Value.oneCell']) (by simp [maxLen]; omega) (by omega) (by have := hb2.size; simp; omega) ?_); intro v3 w3 hown3 hgr3)
    have hb3 : Below w.heap.size w w3 := (hb2.alloc hb2.size _).trans (below_own (hown2.alloc (.cells #[.int .i64 d] 3)) hgr3 (by have := hb2.size; simp; omega))
    go_wp2_with fail
    go_roundw
    case rel => exact ⟨k + 1, out ++ [d], 1, by omega, by go_num, rfl, HE.out, by rw [List.length_append, List.flatMap_append]; exact hown3, hb3⟩
    case measure => simp [intOf]; omega
   ·have hz : ((out.length : Int) == 0) = false := by rw [beq_eq_false_iff_ne]; omega
    obtain ⟨t, ht⟩ : ∃ t, out.length = t + 1 := ⟨out.length - 1, by omega⟩
    have hq' : t < out.length := by omega
    obtain ⟨gq, oq, e, _, hcq⟩ := RdL.cell (RdS.of_own hown) cInt_len (by omega) hq'
    subst e
    have x0 := hcq 0 _ rfl
    simp only [Nat.add_zero, Nat.mul_one] at x0
    have HX : Hid (out.getD (out.length - 1) 0 = out[t]) := by
     show _ = _
     rw [show out.length - 1 = t by omega, List.getD_eq_getElem?_getD, List.getElem?_eq_getElem hq']; rfl
    have HL0 := Lib.hid h0l
    have hw1 : IntKind.i64.wrap ((out.length : Int) - 1) = (t : Int) := by rw [IntWalk.i64_in _ (by omega)]; omega
    have ht1 : (t : Int) < (out.length : Int) := by omega
    have ht0 : (0 : Int) ≤ (t : Int) := by omega
    have htn : ((t : Int)).toNat = t := by omega
    have HT := Lib.hid ht
    clear hcq h0l ht
    generalize out[t] = x at *
    by_cases hx : x = d - 1
    ·have hd1 : (x != d - 1) = false := by rw [bne_eq_false_iff_eq]; exact hx
     have HNO : Hid (¬ (out.length = 0 ∨ out.getD (out.length - 1) 0 ≠ d - 1)) := by
      rintro (h | h)
      ·exact HL0.out h
      ·exact h (HX.out.trans hx)
     clear hx
     by_cases h5 : row = 5
     ·subst h5
      have HE : Hid (mostTo l (k + 1) = (out, 5)) := by
       show _ = _
       rw [HS.out]; exact mostStep_skip HNO.out
      go_wp2_with fail
      go_quiet (fail)
      rename_i nq
      have hbq : Below wr.heap.size wr (wr.drewN nq) := below_drewN (Below.refl _ _) nq
      have hown2 := own_below hown hbq
      have hb2 := bl_trans hb hbq
      replace d0 := carry hbq d0
      generalize wr.drewN nq = wq at *
      clear hown hbq
      go_wp2_with fail
      go_roundw
      case rel => exact ⟨k + 1, out, 5, by omega, by go_num, rfl, HE.out, hown2, hb2⟩
      case measure => simp [intOf]; omega
     ·have hd5 : ((row : Int) == 5) = false := by rw [beq_eq_false_iff_ne]; omega
      have HE : Hid (mostTo l (k + 1) = (out ++ [d], row + 1)) := by
       show _ = _
       rw [HS.out]; exact mostStep_run HNO.out h5
      clear h5
      go_wp2_with fail
      go_quiet (fail)
      rename_i nq
      have hbq : Below wr.heap.size wr (wr.drewN nq) := below_drewN (Below.refl _ _) nq
      have hown2 := own_below hown hbq
      have hb2 := bl_trans hb hbq
      replace d0 := carry hbq d0
      generalize wr.drewN nq = wq at *
      clear hown hbq
      go_wp2_with (at_builtin; go_must (refine wpList_appendR _ rfl (.tmp 47) (.tmp 52) _ rfl w.heap.size 3 i0 _ 1 8 Tryz.underlying26 hi0 hz0 hz1 hz2 rfl (by omega) _ out.length (out.flatMap cInt) rfl (hown2.alloc _) _ 1 [.int .i64 d] rfl (rdS_new wq #[.int .i64 d] _ 1 1 rfl (by simp [maxLen])) (by simp [Value.oneCell']) (by simp [maxLen]; omega) (by omega) (by have := hb2.size; simp; omega) ?_); intro v3 w3 hown3 hgr3)
      have hb3 : Below w.heap.size w w3 := (hb2.alloc hb2.size _).trans (below_own (hown2.alloc (.cells #[.int .i64 d] 3)) hgr3 (by have := hb2.size; simp; omega))
      go_wp2_with fail
      go_roundw
      case rel => exact ⟨k + 1, out ++ [d], row + 1, by omega, by go_num, by first | rfl | exact int_eq (by omega), HE.out, by rw [List.length_append, List.flatMap_append]; exact hown3, hb3⟩
      case measure => simp [intOf]; omega
    ·have hd1 : (x != d - 1) = true := by rw [bne_iff_ne]; exact hx
     have HE : Hid (mostTo l (k + 1) = (out ++ [d], 1)) := by
      show _ = _
      rw [HS.out]; exact mostStep_new (.inr (by rw [HX.out]; exact hx))
     clear hx
     go_wp2_with fail
     go_quiet (fail)
     rename_i nq
     have hbq : Below wr.heap.size wr (wr.drewN nq) := below_drewN (Below.refl _ _) nq
     have hown2 := own_below hown hbq
     have hb2 := bl_trans hb hbq
     replace d0 := carry hbq d0
     generalize wr.drewN nq = wq at *
     clear hown hbq
     go_wp2_with (at_builtin; go_must (refine wpList_appendR _ rfl (.tmp 47) (.tmp 52) _ rfl w.heap.size 3 i0 _ 1 8 Tryz.underlying26 hi0 hz0 hz1 hz2 rfl (by omega) _ out.length (out.flatMap cInt) rfl (hown2.alloc _) _ 1 [.int .i64 d] rfl (rdS_new wq #[.int .i64 d] _ 1 1 rfl (by simp [maxLen])) (by simp [Value.oneCell']) (by simp [maxLen]; omega) (by omega) (by have := hb2.size; simp; omega) ?_); intro v3 w3 hown3 hgr3)
     have hb3 : Below w.heap.size w w3 := (hb2.alloc hb2.size _).trans (below_own (hown2.alloc (.cells #[.int .i64 d] 3)) hgr3 (by have := hb2.size; simp; omega))
     go_wp2_with fail
     go_roundw
     case rel => exact ⟨k + 1, out ++ [d], 1, by omega, by go_num, rfl, HE.out, by rw [List.length_append, List.flatMap_append]; exact hown3, hb3⟩
     case measure => simp [intOf]; omega
  ·obtain rfl : k = l.length := by omega
   have HF : Hid (mostL l = out) := by show _ = _; unfold mostL; rw [hmt.out]
   go_wp2_with fail
   go_ret
   exact ⟨_, rfl, by rw [HF.out]; exact hown, hb⟩
def DaysPost (w0 w : World) (g : Nat) (A : Option Addr) (c : Nat) (bs : List Int) (e : Ending) (w' : World) : Prop :=
 ∃ (v : Value) (l : List Int), e = .returned v ∧ w'.ownsRow w.heap.size 3 1 v l.length (l.flatMap cInt) ∧ (seasonB l = true ∧ l.length ≤ 13) ∧ Cur w0 w' g A c bs ∧ Chg [g] w w'
set_option maxHeartbeats 4000000 in
set_option maxRecDepth 100000 in
theorem l33Days_any (w0 w : World) (g : Nat) (A : Option Addr) (c : Nat) (bs : List Int) (hcur : Cur w0 w g A c bs) :
  Calls Tryz.prog 128 #[.pointer (some ⟨g, 0, none⟩)] w (DaysPost w0 w g A c bs) := by
 have hglt := hcur.lt
 have hw0 := hcur.below.size
 obtain ⟨i0, hi0, hz0, hz1, hz2⟩ := info_parts infoInt
 go_enter Tryz.func128, Tryz.ntmps128
 go_wp2_with fail
 refine (l01Below_any 14 w0 _ g A c bs (hcur.keep ((Below.refl _ _).alloc (Nat.le_refl _) _)) (by omega) (by omega)).mono ?_
 rintro e w1 ⟨r, rfl, ⟨hr0, hr1⟩, hc1, hch1⟩
 obtain ⟨n, rfl⟩ := Int.eq_ofNat_of_zero_le hr0
 have hn : n ≤ 13 := by omega
 have hown1 := own_draw (World.ownsRow_made (size := 1) (e := 3) w #[] 0 (Nat.le_refl _) (by simp [maxLen]) rfl) hch1 hglt
 have hchw1 := ((Chg.refl [g] w).alloc (.cells #[] 3)).trans hch1
 clear hr0 hr1 hch1
 go_wp2_with fail
 go_loopw [3, 4, 6] (fun q t i wr => ∃ (k : Nat) (at_ : Int) (l : List Int), k ≤ n ∧ i = .int .i64 k ∧ t = .int .i64 at_ ∧ (-1 ≤ at_ ∧ at_ ≤ 6 * (k : Int) - 1) ∧ Hid (l.length = k) ∧ Hid (l.Pairwise (· < ·) ∧ ∀ x ∈ l, 0 ≤ x ∧ x ≤ at_) ∧ wr.ownsRow w.heap.size 3 1 q l.length (l.flatMap cInt) ∧ Cur w0 wr g A c bs ∧ Chg [g] w wr) (fun _ _ i _ => n - (intOf i).toNat)
 case atStart => exact ⟨0, -1, [], Nat.zero_le _, rfl, rfl, by omega, rfl, ⟨List.Pairwise.nil, by simp⟩, hown1, hc1, hchw1⟩
 case round =>
  obtain ⟨k, at_, l, hk, rfl, rfl, hat, hll, hval, hown, hc, hch⟩ := hrel
  clear hown1 hc1 hchw1
  have hzw := hch.size
  obtain ⟨Aq, cq, rfl, _, _⟩ := (RdS.of_own hown).form
  by_cases hlt : k < n
  ·have hl13 : l.length ≤ 13 := by have := hll.out; omega
   go_wp2_with fail
   refine (l01Once_any 3 w0 wr g A c bs hc (by omega) (by omega)).mono ?_
   rintro e w3 ⟨b, rfl, hc3, hch3⟩
   have hown3 := own_draw hown hch3 hglt
   have hchw3 := hch.trans hch3
   have hz3 := hchw3.size
   clear hown hc hch hch3
   have fin : ∀ a : Int, at_ + 1 ≤ a → a ≤ at_ + 6 → Hid ((l ++ [a]).Pairwise (· < ·) ∧ ∀ x ∈ l ++ [a], 0 ≤ x ∧ x ≤ a) := fun a h1 h2 => by
    refine ⟨List.pairwise_append.2 ⟨hval.out.1, List.pairwise_singleton _ _, fun x hx y hy => ?_⟩, fun x hx => ?_⟩
    ·rw [List.mem_singleton] at hy; subst hy; have := hval.out.2 x hx; omega
    ·rcases List.mem_append.1 hx with hx | hx
     ·have := hval.out.2 x hx; omega
     ·rw [List.mem_singleton] at hx; subst hx; omega
   have FIN := Lib.hid fin
   clear fin
   cases b
   ·obtain ⟨a, ha⟩ : ∃ a : Int, at_ + 1 = a := ⟨_, rfl⟩
    have hab : at_ + 1 ≤ a ∧ a ≤ at_ + 6 := by omega
    go_upto_region 10 with (fail)
    (try rw [ha])
    clear ha
    have hownW := hown3
    go_wp2_with (at_builtin; go_must (refine wpList_appendR _ rfl (.tmp 23) (.tmp 25) _ rfl w.heap.size 3 i0 _ 1 8 Tryz.underlying26 hi0 hz0 hz1 hz2 rfl (by omega) _ l.length (l.flatMap cInt) rfl (hownW.alloc _) _ 1 [.int .i64 a] rfl (rdS_new w3 #[.int .i64 a] _ 1 1 rfl (by simp [maxLen])) (by simp [Value.oneCell']) (by simp [maxLen]; omega) (by omega) (by simp; omega) ?_); intro v9 w9 hown9 hgr9)
    have hch9 := chg_of_own (hchw3.alloc (.cells #[.int .i64 a] 3)) (hownW.alloc _) hgr9
    have hc9 := cur_own (hc3.keep ((Below.refl _ _).alloc (Nat.le_refl _) (.cells #[.int .i64 a] 3))) (hownW.alloc _) hgr9 hglt hw0
    go_wp2_with fail
    go_roundw
    case rel => exact ⟨k + 1, a, l ++ [a], by omega, by go_num, rfl, by omega, by show _ = _; rw [List.length_append, hll.out]; rfl, FIN.out a hab.1 hab.2, by rw [List.length_append, List.flatMap_append]; exact hown9, hc9, hch9⟩
    case measure => simp [intOf]; omega
   ·go_wp2_with fail
    refine (l01Below_any 6 w0 w3 g A c bs hc3 (by omega) (by omega)).mono ?_
    rintro e w5 ⟨r, rfl, ⟨hr0, hr1⟩, hc5, hch5⟩
    have hown5 := own_draw hown3 hch5 hglt
    have hchw5 := hchw3.trans hch5
    have hz5 := hchw5.size
    clear hown3 hc3 hchw3 hch5
    obtain ⟨a, ha⟩ : ∃ a : Int, at_ + 1 + r = a := ⟨_, rfl⟩
    have hab : at_ + 1 ≤ a ∧ a ≤ at_ + 6 := by omega
    go_upto_region 10 with (fail)
    (try rw [ha])
    clear ha
    have hownW := hown5
    go_wp2_with (at_builtin; go_must (refine wpList_appendR _ rfl (.tmp 23) (.tmp 25) _ rfl w.heap.size 3 i0 _ 1 8 Tryz.underlying26 hi0 hz0 hz1 hz2 rfl (by omega) _ l.length (l.flatMap cInt) rfl (hownW.alloc _) _ 1 [.int .i64 a] rfl (rdS_new w5 #[.int .i64 a] _ 1 1 rfl (by simp [maxLen])) (by simp [Value.oneCell']) (by simp [maxLen]; omega) (by omega) (by simp; omega) ?_); intro v9 w9 hown9 hgr9)
    have hch9 := chg_of_own (hchw5.alloc (.cells #[.int .i64 a] 3)) (hownW.alloc _) hgr9
    have hc9 := cur_own (hc5.keep ((Below.refl _ _).alloc (Nat.le_refl _) (.cells #[.int .i64 a] 3))) (hownW.alloc _) hgr9 hglt hw0
    go_wp2_with fail
    go_roundw
    case rel => exact ⟨k + 1, a, l ++ [a], by omega, by go_num, rfl, by omega, by show _ = _; rw [List.length_append, hll.out]; rfl, FIN.out a hab.1 hab.2, by rw [List.length_append, List.flatMap_append]; exact hown9, hc9, hch9⟩
    case measure => simp [intOf]; omega
  ·obtain rfl : k = n := by omega
   have hsea : Hid (seasonB l = true ∧ l.length ≤ 13) := by
    have h1 := hll.out
    refine ⟨?_, by omega⟩
    rw [season_t (by omega), strictB, Bool.and_eq_true]
    exact ⟨asc_of_pairwise _ hval.out.1, List.all_eq_true.2 (fun x hx => inB_iff.2 (by have := hval.out.2 x hx; omega))⟩
   go_wp2_with fail
   go_ret
   exact ⟨_, l, rfl, hown, hsea.out, hc, hch⟩
open Go.RowKit
def canAt (pl : List RPl) (x : Int) (ld : List Int) (p : Nat) : Bool := decide (ld.getD p 0 < (pl.getD p ([], 0)).2) && knowsB (pl.getD p ([], 0)) x
def bump (ld : List Int) (p : Nat) : List Int := ld.set p (ld.getD p 0 + 1)
def canS (pl : List RPl) : List Int → List Int → Bool
 | [], _ => true
 | x :: ps, ld => (List.range pl.length).any (fun p => canAt pl x ld p && canS pl ps (bump ld p))
theorem bump_len (ld : List Int) (p : Nat) : (bump ld p).length = ld.length := by simp [bump]
def zeroL (n : Nat) : List Int := List.replicate n 0
def canF (pl : List RPl) (ps : List Int) : Bool := (playersB pl && strictB ps 0 6) && canS pl ps (zeroL pl.length)
theorem canF_f1 {pl : List RPl} {ps : List Int} (h : playersB pl = false) : canF pl ps = false := by rw [canF, h]; rfl
theorem canF_f2 {pl : List RPl} {ps : List Int} (h : strictB ps 0 6 = false) : canF pl ps = false := by rw [canF, h, Bool.and_false]; rfl
theorem canF_t {pl : List RPl} {ps : List Int} (h1 : playersB pl = true) (h2 : strictB ps 0 6 = true) : canF pl ps = canS pl ps (zeroL pl.length) := by rw [canF, h1, h2]; rfl
theorem canS_t {pl : List RPl} {x : Int} {ps ld : List Int} {p : Nat} (hp : p < pl.length) (h1 : canAt pl x ld p = true) (h2 : canS pl ps (bump ld p) = true) : canS pl (x :: ps) ld = true := by
 rw [canS, List.any_eq_true]
 exact ⟨p, List.mem_range.2 hp, by rw [h1, h2]; rfl⟩
def TriedF (pl : List RPl) (x : Int) (ps ld : List Int) (k : Nat) : Prop := ∀ p, p < k → (canAt pl x ld p && canS pl ps (bump ld p)) = false
theorem TriedF.zero (pl : List RPl) (x : Int) (ps ld : List Int) : TriedF pl x ps ld 0 := fun p h => absurd h (by omega)
theorem TriedF.no {pl : List RPl} {x : Int} {ps ld : List Int} {k : Nat} (h : TriedF pl x ps ld k) (h1 : canAt pl x ld k = false) : TriedF pl x ps ld (k + 1) := fun p hp => by
 rcases Nat.lt_succ_iff_lt_or_eq.1 hp with h2 | rfl
 ·exact h p h2
 ·rw [h1]; rfl
theorem TriedF.sub {pl : List RPl} {x : Int} {ps ld : List Int} {k : Nat} (h : TriedF pl x ps ld k) (h1 : canS pl ps (bump ld k) = false) : TriedF pl x ps ld (k + 1) := fun p hp => by
 rcases Nat.lt_succ_iff_lt_or_eq.1 hp with h2 | rfl
 ·exact h p h2
 ·rw [h1, Bool.and_false]
theorem TriedF.end_ {pl : List RPl} {x : Int} {ps ld : List Int} (h : TriedF pl x ps ld pl.length) : canS pl (x :: ps) ld = false := by
 rw [canS]
 exact Bool.eq_false_iff.2 (fun h2 => by
  obtain ⟨p, hp, h3⟩ := List.any_eq_true.1 h2
  rw [h p (List.mem_range.1 hp)] at h3
  exact absurd h3 (by simp))
theorem canAt_eq {pl : List RPl} {x : Int} {ld : List Int} {p : Nat} (hp : p < pl.length) (hl : p < ld.length) : canAt pl x ld p = (decide (ld[p] < pl[p].2) && knowsB pl[p] x) := by
 unfold canAt
 rw [List.getD_eq_getElem?_getD, List.getElem?_eq_getElem hl, List.getD_eq_getElem?_getD, List.getElem?_eq_getElem hp]; rfl
theorem bump_eq {ld : List Int} {p : Nat} (hl : p < ld.length) : bump ld p = ld.set p (ld[p] + 1) := by
 unfold bump
 rw [List.getD_eq_getElem?_getD, List.getElem?_eq_getElem hl]; rfl
theorem unbump {ld : List Int} {p : Nat} (hl : p < ld.length) : (bump ld p).set p ld[p] = ld := by
 rw [bump_eq hl, List.set_set, List.set_getElem_self]
def whyF (n : Int) (cs : List RCross) (pl : List RPl) : Int :=
 if companyB n cs pl = true then (if orderF n.toNat cs = upN n.toNat then (if woundL n.toNat cs = [] then (if canF pl (upN n.toNat) = true then 0 else 3) else 2) else 1) else -1
theorem whyF_m {n : Int} {cs : List RCross} {pl : List RPl} (h : companyB n cs pl = false) : whyF n cs pl = -1 := if_neg (by rw [h]; simp)
theorem whyF_1 {n : Int} {cs : List RCross} {pl : List RPl} (h : companyB n cs pl = true) (h1 : ¬ orderF n.toNat cs = upN n.toNat) : whyF n cs pl = 1 := by rw [whyF, if_pos h, if_neg h1]
theorem whyF_2 {n : Int} {cs : List RCross} {pl : List RPl} (h : companyB n cs pl = true) (h1 : orderF n.toNat cs = upN n.toNat) (h2 : ¬ woundL n.toNat cs = []) : whyF n cs pl = 2 := by rw [whyF, if_pos h, if_pos h1, if_neg h2]
theorem whyF_3 {n : Int} {cs : List RCross} {pl : List RPl} (h : companyB n cs pl = true) (h1 : orderF n.toNat cs = upN n.toNat) (h2 : woundL n.toNat cs = []) (h3 : canF pl (upN n.toNat) = false) : whyF n cs pl = 3 := by rw [whyF, if_pos h, if_pos h1, if_pos h2, if_neg (by rw [h3]; simp)]
theorem whyF_0 {n : Int} {cs : List RCross} {pl : List RPl} (h : companyB n cs pl = true) (h1 : orderF n.toNat cs = upN n.toNat) (h2 : woundL n.toNat cs = []) (h3 : canF pl (upN n.toNat) = true) : whyF n cs pl = 0 := by rw [whyF, if_pos h, if_pos h1, if_pos h2, if_pos h3]
open Go.RowKit
theorem swapL_swapL : ∀ (l : List Int) (k : Nat), k + 1 < l.length → swapL (swapL l k) k = l := by
  intro l
  induction l with
  | nil => intro k h; simp at h
  | cons a l ih =>
    intro k h
    cases k with
    | zero =>
      match l, h with
      | b :: l, _ => rw [swapL_zero, swapL_zero]
    | succ k => rw [swapL_succ, swapL_succ, ih k (by simpa using h)]
theorem swapL_at {l : List Int} {k : Nat} (h : k + 1 < l.length) : (swapL l k).getD k 0 = l.getD (k + 1) 0 := by
  unfold swapL
  simp only [List.getD_eq_getElem?_getD, List.getElem?_set, List.length_set]
  rw [if_neg (show ¬ k + 1 = k by omega)]
  simp only [if_true]
  rw [if_pos (show k < l.length by omega), Option.getD_some]
theorem swapL_at1 {l : List Int} {k : Nat} (h : k + 1 < l.length) : (swapL l k).getD (k + 1) 0 = l.getD k 0 := by
  unfold swapL
  simp only [List.getD_eq_getElem?_getD, List.getElem?_set, List.length_set]
  simp only [if_true]
  rw [if_pos h, Option.getD_some]
theorem swapL_ne {l : List Int} {k j : Nat} (h1 : j ≠ k) (h2 : j ≠ k + 1) : (swapL l k).getD j 0 = l.getD j 0 := by
  unfold swapL
  simp only [List.getD_eq_getElem?_getD, List.getElem?_set, List.length_set]
  rw [if_neg (fun e => h2 e.symm), if_neg (fun e => h1 e.symm)]
theorem upN_getD {n i : Nat} (h : i < n) : (upN n).getD i 0 = (i : Int) := by
  unfold upN
  rw [List.getD_eq_getElem?_getD, List.getElem?_map, List.getElem?_range h]; rfl
theorem ord_ne {n : Nat} {o : List Int} (h : IsOrd n o) {i j x y : Nat} (hi : i < n) (hj : j < n) (hij : i ≠ j) (hx : o.getD i 0 = (x : Int)) (hy : o.getD j 0 = (y : Int)) : x ≠ y := by
  have hl := h.len
  have h1 : i < o.length := by omega
  have h2 : j < o.length := by omega
  have := h.ne h1 h2 hij
  rw [List.getD_eq_getElem?_getD, List.getElem?_eq_getElem h1, Option.getD_some] at hx
  rw [List.getD_eq_getElem?_getD, List.getElem?_eq_getElem h2, Option.getD_some] at hy
  intro e
  subst e
  exact this (by rw [hx, hy])
structure Adds (n : Nat) (t t' : List (List Int)) (x y : Nat) (d : Int) : Prop where
  sq : Sq n t'
  cell : ∀ i j, cellT t' i j = if (i = x ∧ j = y) ∨ (i = y ∧ j = x) then cellT t i j + d else cellT t i j
theorem Adds.st {n : Nat} {o : List Int} {t t' : List (List Int)} {x y : Nat} {d : Int} (h : IsSt n (o, t)) (ha : Adds n t t' x y d) : IsSt n (o, t') := by
  refine ⟨h.ord, ha.sq, fun i j => ?_⟩
  show cellT t' i j = cellT t' j i
  have hs : cellT t i j = cellT t j i := h.sym i j
  rw [ha.cell, ha.cell, hs]
  by_cases h1 : (i = x ∧ j = y) ∨ (i = y ∧ j = x)
  · rw [if_pos h1, if_pos (h1.symm.imp (fun e => ⟨e.2, e.1⟩) (fun e => ⟨e.2, e.1⟩))]
  · rw [if_neg h1, if_neg (fun e => h1 (e.symm.imp (fun e => ⟨e.2, e.1⟩) (fun e => ⟨e.2, e.1⟩)))]
theorem step_at {n : Nat} {o : List Int} {t : List (List Int)} (h : IsSt n (o, t)) {k : Nat} (hk : k + 1 < n) (f : Bool) {x y : Nat} (hx : o.getD k 0 = (x : Int)) (hy : o.getD (k + 1) 0 = (y : Int)) :
    x < n ∧ y < n ∧ x ≠ y ∧ ∃ t', twStep (o, t) ((k : Int), f) = (swapL o k, t') ∧ Adds n t t' x y (stepB f) ∧ IsSt n (swapL o k, t') := by
  obtain ⟨x', y', hx', hy', hne, e1, e2, e3, e4⟩ := pair_of h.ord hk
  have ex : x = x' := by have := hx.symm.trans e1; omega
  have ey : y = y' := by have := hy.symm.trans e2; omega
  subst ex ey
  have hst := h.step (c := ((k : Int), f)) ⟨by simp, by simp; omega⟩
  rw [twStep_of (_n := n) (c := ((k : Int), f)) e3 e4] at hst ⊢
  exact ⟨hx', hy', hne, _, rfl, ⟨hst.sq, fun i j => add2_cell h.sq hx' hy' hne _ i j⟩, hst⟩
theorem turn_of {n i : Nat} (f : Bool) : ∀ (m : Nat) (o : List Int) (t : List (List Int)), IsSt n (o, t) → i + m + 1 < n → ∀ x y : Nat, o.getD i 0 = (x : Int) → o.getD (i + m + 1) 0 = (y : Int) →
    ∃ t', ((downL i m ++ [((i : Int), f), ((i : Int), f)]) ++ upL i m).foldl twStep (o, t) = (o, t') ∧ Adds n t t' x y (2 * stepB f) := by
  intro m
  induction m with
  | zero =>
    intro o t h hk x y hx hy
    have hl := h.ord.len
    have hl : o.length = n := hl
    obtain ⟨_, _, hne, t1, e1, a1, s1⟩ := step_at h hk f hx hy
    obtain ⟨_, _, _, t2, e2, a2, s2⟩ := step_at s1 hk f ((swapL_at (by omega)).trans hy) ((swapL_at1 (by omega)).trans hx)
    refine ⟨t2, ?_, a2.sq, fun a b => ?_⟩
    · show twStep (twStep (o, t) ((i : Int), f)) ((i : Int), f) = (o, t2)
      rw [e1, e2, swapL_swapL o i (by omega)]
    · rw [a2.cell, a1.cell]
      by_cases h1 : (a = x ∧ b = y) ∨ (a = y ∧ b = x)
      · rw [if_pos h1, if_pos h1.symm, if_pos h1]; omega
      · rw [if_neg h1, if_neg (fun e => h1 e.symm), if_neg h1]
  | succ m ih =>
    intro o t h hk x y hx hy
    have hl : o.length = n := h.ord.len
    have hk1 : i + m + 1 + 1 < n := by omega
    obtain ⟨z, _, _, _, _, hz, _, _, _⟩ := pair_of h.ord hk1
    have hy' : o.getD (i + m + 1 + 1) 0 = (y : Int) := by rw [← hy]; rfl
    obtain ⟨_, _, hzy, t1, e1, a1, s1⟩ := step_at h hk1 false hz hy'
    have hxz : x ≠ z := ord_ne h.ord (show i < n by omega) (show i + m + 1 < n by omega) (by omega) hx hz
    have hxy : x ≠ y := ord_ne h.ord (show i < n by omega) hk1 (by omega) hx hy'
    obtain ⟨t2, e2, a2⟩ := ih (swapL o (i + m + 1)) t1 s1 (by omega) x y ((swapL_ne (by omega) (by omega)).trans hx) ((swapL_at (by omega)).trans hy')
    obtain ⟨_, _, _, t3, e3, a3, s3⟩ := step_at (a2.st s1) hk1 true ((swapL_at (by omega)).trans hy') ((swapL_at1 (by omega)).trans hz)
    refine ⟨t3, ?_, a3.sq, fun a b => ?_⟩
    · have hsplit : (downL i (m + 1) ++ [((i : Int), f), ((i : Int), f)]) ++ upL i (m + 1) = (((i + m + 1 : Nat) : Int), false) :: (((downL i m ++ [((i : Int), f), ((i : Int), f)]) ++ upL i m) ++ [(((i + m + 1 : Nat) : Int), true)]) := by
        simp [downL, upL]
      rw [hsplit, List.foldl_cons, List.foldl_append, e1, e2]
      show twStep _ _ = _
      rw [e3, swapL_swapL o _ (by omega)]
    · have hf : stepB false = -1 := rfl
      have ht : stepB true = 1 := rfl
      rw [a3.cell, a2.cell, a1.cell, hf, ht]
      generalize cellT t a b = v
      generalize stepB f = s
      repeat' split
      all_goals omega
theorem turn_home {n i k : Nat} (f : Bool) {t : List (List Int)} (h : IsSt n (upN n, t)) (hik : i < k) (hk : k < n) : ∃ t', (turnL i k f).foldl twStep (upN n, t) = (upN n, t') ∧ Adds n t t' i k (2 * stepB f) := by
  unfold turnL
  exact turn_of f (k - 1 - i) (upN n) t h (by omega) i k (upN_getD (by omega)) (by rw [show i + (k - 1 - i) + 1 = k by omega]; exact upN_getD hk)
def dirT (f : Bool) (m : Nat) : Int := if f = true then 2 * (m : Int) else -(2 * (m : Int))
theorem many_home {n i k : Nat} (f : Bool) {t : List (List Int)} (h : IsSt n (upN n, t)) (hik : i < k) (hk : k < n) (m : Nat) : ∃ t', (manyL (turnL i k f) m).foldl twStep (upN n, t) = (upN n, t') ∧ Adds n t t' i k (dirT f m) := by
  induction m with
  | zero => exact ⟨t, rfl, h.sq, fun a b => by have : dirT f 0 = 0 := by cases f <;> rfl
                                               rw [this, Int.add_zero]; split <;> rfl⟩
  | succ m ih =>
    obtain ⟨t1, e1, a1⟩ := ih
    obtain ⟨t2, e2, a2⟩ := turn_home f (a1.st h) hik hk
    refine ⟨t2, by rw [manyL, List.foldl_append, e1, e2], a2.sq, fun a b => ?_⟩
    rw [a2.cell, a1.cell]
    have hd : dirT f (m + 1) = dirT f m + 2 * stepB f := by cases f <;> simp [dirT, stepB] <;> omega
    rw [hd]
    split <;> omega
theorem dir_even {t : Int} (h : t % 2 = 0) : dirT (decide (t < 0)) (timesT t) = -t := by
  unfold dirT timesT
  by_cases h1 : t < 0
  · rw [decide_eq_true h1, if_pos rfl]; omega
  · rw [decide_eq_false h1, if_neg (by simp)]; omega
theorem pairI_of (i k : Nat) : pairI [(i : Int), (k : Int)] = i := rfl
theorem pairK_of (i k : Nat) : pairK [(i : Int), (k : Int)] = k := rfl
theorem unw_home {n : Nat} {ll : List (List Int)} : ∀ (ps : List (List Int)) (t : List (List Int)), IsSt n (upN n, t) → ps.Nodup → (∀ r ∈ ps, ∃ i k : Nat, r = [(i : Int), (k : Int)] ∧ i < k ∧ k < n ∧ cellT ll i k % 2 = 0) →
    ∃ t', (unwTo ll ps).foldl twStep (upN n, t) = (upN n, t') ∧ IsSt n (upN n, t') ∧ ∀ a b : Nat, a < b → cellT t' a b = cellT t a b - (if [(a : Int), (b : Int)] ∈ ps then cellT ll a b else 0) := by
  intro ps
  induction ps with
  | nil => intro t h _ _; exact ⟨t, rfl, h, fun a b _ => by rw [if_neg (by simp)]; omega⟩
  | cons r ps ih =>
    intro t h hnd hps
    obtain ⟨i, k, rfl, hik, hk, hev⟩ := hps r List.mem_cons_self
    rw [List.nodup_cons] at hnd
    obtain ⟨t1, e1, a1⟩ := many_home (decide (cellT ll i k < 0)) h hik hk (timesT (cellT ll i k))
    rw [dir_even hev] at a1
    obtain ⟨t2, e2, s2, c2⟩ := ih t1 (a1.st h) hnd.2 (fun r hr => hps r (List.mem_cons_of_mem _ hr))
    refine ⟨t2, ?_, s2, fun a b hab => ?_⟩
    · have : unwTo ll ([(i : Int), (k : Int)] :: ps) = unwR ll [(i : Int), (k : Int)] ++ unwTo ll ps := by unfold unwTo; rw [List.flatMap_cons]
      rw [this, List.foldl_append]
      unfold unwR
      rw [pairI_of, pairK_of, e1, e2]
    · rw [c2 a b hab, a1.cell]
      by_cases h1 : a = i ∧ b = k
      · obtain ⟨rfl, rfl⟩ := h1
        rw [if_pos (.inl ⟨rfl, rfl⟩), if_neg hnd.1, if_pos List.mem_cons_self]; omega
      · have hne : ¬ ([(a : Int), (b : Int)] = [(i : Int), (k : Int)]) := by
          intro e
          injection e with e1 e2
          injection e2 with e2 _
          exact h1 ⟨by omega, by omega⟩
        rw [if_neg (fun e => e.elim h1 (fun e => by omega))]
        by_cases h2 : [(a : Int), (b : Int)] ∈ ps
        · rw [if_pos h2, if_pos (List.mem_cons_of_mem _ h2)]
        · rw [if_neg h2, if_neg (fun e => (List.mem_cons.1 e).elim hne h2)]
theorem woundR_nodup (ll : List (List Int)) (i m : Nat) : (woundR ll i m).Nodup := by
  unfold woundR
  rw [List.nodup_iff_pairwise_ne, List.pairwise_map]
  refine List.Pairwise.imp ?_ (List.Pairwise.filter _ (List.nodup_iff_pairwise_ne.1 List.nodup_range))
  intro a b hab e
  injection e with _ e2
  injection e2 with e2 _
  exact hab (by omega)
theorem woundTo_nodup (ll : List (List Int)) (n m : Nat) : (woundTo ll n m).Nodup := by
  induction m with
  | zero => exact List.nodup_nil
  | succ m ih =>
    rw [woundTo, List.nodup_append]
    refine ⟨ih, woundR_nodup ll m n, ?_⟩
    intro r hr r' hr' e
    subst e
    obtain ⟨i, k, e, h1, _⟩ := woundTo_mem hr
    obtain ⟨k', _, e'⟩ := List.mem_map.1 hr'
    rw [← e'] at e
    injection e with e1 _
    omega
theorem woundTo_all {ll : List (List Int)} {n m a b : Nat} (ha : a < m) (hab : a < b) (hb : b < n) (hc : cellT ll a b ≠ 0) : [(a : Int), (b : Int)] ∈ woundTo ll n m := by
  induction m with
  | zero => omega
  | succ m ih =>
    rw [woundTo, List.mem_append]
    rcases Nat.lt_succ_iff_lt_or_eq.1 ha with h | rfl
    · exact .inl (ih h)
    · refine .inr (List.mem_map.2 ⟨b, List.mem_filter.2 ⟨List.mem_range.2 hb, ?_⟩, rfl⟩)
      simp [woundB, hab, hc]
def ParSt (n : Nat) (st : List Int × List (List Int)) : Prop := ∀ p q : Nat, p < q → q < n → ∀ a b : Nat, st.1.getD p 0 = (a : Int) → st.1.getD q 0 = (b : Int) → cellT st.2 a b % 2 = if b < a then 1 else 0
theorem ParSt.start (n : Nat) : ParSt n (upN n, zeroT n) := by
  intro p q hpq hq a b ha hb
  have ha : (upN n).getD p 0 = (a : Int) := ha
  have hb : (upN n).getD q 0 = (b : Int) := hb
  rw [upN_getD (by omega)] at ha
  rw [upN_getD (by omega)] at hb
  show cellT (zeroT n) a b % 2 = _
  rw [zeroT_cell, if_neg (by omega)]; rfl
theorem ParSt.step {n : Nat} {o : List Int} {t : List (List Int)} (h : IsSt n (o, t)) (hp : ParSt n (o, t)) {k : Nat} (hk : k + 1 < n) (f : Bool) : ParSt n (twStep (o, t) ((k : Int), f)) := by
  have hl : o.length = n := h.ord.len
  obtain ⟨x, y, _, _, _, ex, ey, _, _⟩ := pair_of h.ord hk
  obtain ⟨hx, hy, hne, t', e, ad, s'⟩ := step_at h hk f ex ey
  rw [e]
  have other : ∀ p q a b : Nat, p < q → q < n → ¬ (p = k ∧ q = k + 1) → o.getD p 0 = (a : Int) → o.getD q 0 = (b : Int) → cellT t' a b % 2 = if b < a then 1 else 0 := by
    intro p q a b hpq hq hno ha hb
    rw [ad.cell, if_neg, ]
    · exact hp p q hpq hq a b ha hb
    · rintro (⟨rfl, rfl⟩ | ⟨rfl, rfl⟩)
      · have h1 : p = k := Classical.byContradiction fun hn => ord_ne h.ord (show p < n by omega) (show k < n by omega) hn ha ex rfl
        have h2 : q = k + 1 := Classical.byContradiction fun hn => ord_ne h.ord hq hk hn hb ey rfl
        exact hno ⟨h1, h2⟩
      · have h1 : p = k + 1 := Classical.byContradiction fun hn => ord_ne h.ord (show p < n by omega) hk hn ha ey rfl
        have h2 : q = k := Classical.byContradiction fun hn => ord_ne h.ord hq (show k < n by omega) hn hb ex rfl
        omega
  intro p q hpq hq a b ha hb
  have ga : (swapL o k).getD p 0 = (a : Int) := ha
  have gb : (swapL o k).getD q 0 = (b : Int) := hb
  clear ha hb
  show cellT t' a b % 2 = _
  by_cases h1 : p = k
  · subst h1
    rw [swapL_at (by omega)] at ga
    by_cases h2 : q = p + 1
    · subst h2
      rw [swapL_at1 (by omega)] at gb
      have ea : a = y := by have := ga.symm.trans ey; omega
      have eb : b = x := by have := gb.symm.trans ex; omega
      subst ea eb
      have h3 : cellT t b a % 2 = if a < b then 1 else 0 := hp p (p + 1) (by omega) hq b a ex ey
      have h4 : cellT t a b = cellT t b a := h.sym a b
      rw [ad.cell, if_pos (.inr ⟨rfl, rfl⟩), h4]
      have hs : stepB f = 1 ∨ stepB f = -1 := by cases f; exact .inr rfl; exact .inl rfl
      by_cases h5 : a < b
      · rw [if_pos h5] at h3
        rw [if_neg (by omega)]
        omega
      · rw [if_neg h5] at h3
        rw [if_pos (by omega)]
        omega
    · rw [swapL_ne (by omega) h2] at gb
      exact other (p + 1) q a b (by omega) hq (by omega) ga gb
  · by_cases h2 : p = k + 1
    · subst h2
      rw [swapL_at1 (by omega)] at ga
      rw [swapL_ne (by omega) (by omega)] at gb
      exact other k q a b (by omega) hq (by omega) ga gb
    · rw [swapL_ne h1 h2] at ga
      by_cases h3 : q = k
      · subst h3
        rw [swapL_at (by omega)] at gb
        exact other p (q + 1) a b (by omega) hk (by omega) ga gb
      · by_cases h4 : q = k + 1
        · subst h4
          rw [swapL_at1 (by omega)] at gb
          exact other p k a b (by omega) (by omega) (by omega) ga gb
        · rw [swapL_ne h3 h4] at gb
          exact other p q a b hpq hq (by omega) ga gb
theorem cross_nat {n : Nat} {c : RCross} (h : 0 ≤ c.1 ∧ c.1 ≤ (n : Int) - 2) : ∃ k : Nat, c = ((k : Int), c.2) ∧ k + 1 < n := ⟨c.1.toNat, by rw [show ((c.1.toNat : Nat) : Int) = c.1 by omega], by omega⟩
theorem ParSt.fold {n : Nat} : ∀ (cs : List RCross) {st : List Int × List (List Int)}, IsSt n st → ParSt n st → (∀ c ∈ cs, 0 ≤ c.1 ∧ c.1 ≤ (n : Int) - 2) → ParSt n (cs.foldl twStep st) := by
  intro cs
  induction cs with
  | nil => intro st _ h _; exact h
  | cons c cs ih =>
    intro st h hp hc
    rw [List.foldl_cons]
    have hb := hc c List.mem_cons_self
    refine ih (h.step hb) ?_ (fun x hx => hc x (List.mem_cons_of_mem _ hx))
    obtain ⟨k, e, hk⟩ := cross_nat hb
    rw [e]
    exact ParSt.step (o := st.1) (t := st.2) h hp hk _
theorem tw_even {n : Nat} {cs : List RCross} (h : ∀ c ∈ cs, 0 ≤ c.1 ∧ c.1 ≤ (n : Int) - 2) (ho : orderF n cs = upN n) {i k : Nat} (hik : i < k) (hk : k < n) : cellT (twL n cs) i k % 2 = 0 := by
  have hp := ParSt.fold cs (IsSt.start n) (ParSt.start n) h
  have := hp i k hik hk i k (by show (twSt n cs).1.getD i 0 = _; rw [twSt_fst, ho, upN_getD (by omega)]) (by show (twSt n cs).1.getD k 0 = _; rw [twSt_fst, ho, upN_getD (by omega)])
  rw [if_neg (by omega)] at this
  exact this
theorem twSt_app (n : Nat) (a b : List RCross) : twSt n (a ++ b) = b.foldl twStep (twSt n a) := by unfold twSt; rw [List.foldl_append]
theorem unwind_zero {n : Nat} {cs : List RCross} (h : ∀ c ∈ cs, 0 ≤ c.1 ∧ c.1 ≤ (n : Int) - 2) (ho : orderF n cs = upN n) : orderF n (cs ++ unwindL n cs) = upN n ∧ woundL n (cs ++ unwindL n cs) = [] := by
  have e0 : twSt n cs = (upN n, twL n cs) := by rw [← ho, ← twSt_fst]; rfl
  have hst : IsSt n (upN n, twL n cs) := by rw [← e0]; exact IsSt.tw h
  obtain ⟨t', e, s, c⟩ := unw_home (ll := twL n cs) (woundL n cs) (twL n cs) hst (woundTo_nodup _ _ _) (fun r hr => by
    obtain ⟨i, k, e, h1, h2, h3, _⟩ := woundTo_mem hr
    exact ⟨i, k, e, h2, h3, tw_even h ho h2 h3⟩)
  have e1 : twSt n (cs ++ unwindL n cs) = (upN n, t') := by rw [twSt_app, e0]; exact e
  refine ⟨by rw [← twSt_fst, e1], ?_⟩
  have e2 : twL n (cs ++ unwindL n cs) = t' := by unfold twL; rw [e1]
  unfold woundL
  rw [e2, List.eq_nil_iff_forall_not_mem]
  intro r hr
  obtain ⟨i, k, _, h1, h2, h3, h4⟩ := woundTo_mem hr
  rw [c i k h2] at h4
  by_cases h5 : cellT (twL n cs) i k = 0
  · rw [h5] at h4; apply h4; split <;> rfl
  · rw [if_pos (show [(i : Int), (k : Int)] ∈ woundL n cs from woundTo_all (by omega) h2 h3 h5)] at h4
    exact h4 (by omega)
/- reduced crossings -/
theorem cancel {n : Nat} {st : List Int × List (List Int)} (h : IsSt n st) {l c : RCross} (hb : 0 ≤ l.1 ∧ l.1 ≤ (n : Int) - 2) (h1 : l.1 = c.1) (h2 : l.2 ≠ c.2) : twStep (twStep st l) c = st := by
  obtain ⟨o, t⟩ := st
  have hl : o.length = n := h.ord.len
  obtain ⟨k, e, hk⟩ := cross_nat hb
  have ec : c = ((k : Int), c.2) := by rw [show c = (c.1, c.2) from rfl, ← h1, e]
  rw [e, ec]
  obtain ⟨x, y, _, _, _, ex, ey, _, _⟩ := pair_of h.ord hk
  obtain ⟨_, _, hne, t1, e1, a1, s1⟩ := step_at h hk l.2 ex ey
  obtain ⟨_, _, _, t2, e2, a2, s2⟩ := step_at s1 hk c.2 ((swapL_at (by omega)).trans ey) ((swapL_at1 (by omega)).trans ex)
  rw [e1, e2, swapL_swapL o k (by omega)]
  have : t2 = t := by
    refine sq_ext a2.sq h.sq (fun i j _ _ => ?_)
    rw [a2.cell, a1.cell]
    have hs : stepB l.2 + stepB c.2 = 0 := by
      cases hl2 : l.2 <;> cases hc2 : c.2 <;> simp [hl2, hc2] at h2 <;> rfl
    by_cases h1 : (i = x ∧ j = y) ∨ (i = y ∧ j = x)
    · rw [if_pos h1, if_pos h1.symm]; show _ = cellT t i j; omega
    · rw [if_neg h1, if_neg (fun e => h1 e.symm)]
  rw [this]
theorem red_split {out : List RCross} (h : 0 < out.length) : out = out.take (out.length - 1) ++ [lastC out] := by
  unfold lastC
  rw [List.getD_eq_getElem?_getD, List.getElem?_eq_getElem (show out.length - 1 < out.length by omega), Option.getD_some]
  have := take_snoc_l out (show out.length - 1 < out.length by omega)
  rw [show out.length - 1 + 1 = out.length by omega, List.take_length] at this
  exact this
theorem red_step_st {n : Nat} {out : List RCross} {c : RCross} (h : ∀ c ∈ out, 0 ≤ c.1 ∧ c.1 ≤ (n : Int) - 2) (hc : 0 ≤ c.1 ∧ c.1 ≤ (n : Int) - 2) : twSt n (redStep out c) = twStep (twSt n out) c ∧ ∀ x ∈ redStep out c, 0 ≤ x.1 ∧ x.1 ≤ (n : Int) - 2 := by
  unfold redStep
  by_cases hu : undoB out c = true
  · rw [if_pos hu]
    unfold undoB at hu
    rw [Bool.and_eq_true, Bool.and_eq_true, decide_eq_true_eq, decide_eq_true_eq] at hu
    obtain ⟨h0, h1, h2⟩ := hu
    have hsp := red_split h0
    have h2 : (lastC out).2 ≠ c.2 := by simpa using h2
    refine ⟨?_, fun x hx => h x (List.mem_of_mem_take hx)⟩
    have e1 : twSt n out = twStep (twSt n (out.take (out.length - 1))) (lastC out) := by
      conv => lhs; rw [hsp]
      rw [twSt_app]; rfl
    rw [e1]
    have hm : lastC out ∈ out := by
      have : lastC out ∈ out.take (out.length - 1) ++ [lastC out] := by simp
      rwa [← hsp] at this
    exact (cancel (IsSt.tw (fun x hx => h x (List.mem_of_mem_take hx))) (h _ hm) h1 h2).symm
  · rw [if_neg hu, twSt_app]
    exact ⟨rfl, fun x hx => (List.mem_append.1 hx).elim (h x) (fun e => by rw [List.mem_singleton.1 e]; exact hc)⟩
theorem red_state {n : Nat} : ∀ (cs out : List RCross), (∀ c ∈ out, 0 ≤ c.1 ∧ c.1 ≤ (n : Int) - 2) → (∀ c ∈ cs, 0 ≤ c.1 ∧ c.1 ≤ (n : Int) - 2) → twSt n (cs.foldl redStep out) = cs.foldl twStep (twSt n out) ∧ ∀ x ∈ cs.foldl redStep out, 0 ≤ x.1 ∧ x.1 ≤ (n : Int) - 2 := by
  intro cs
  induction cs with
  | nil => intro out h _; exact ⟨rfl, h⟩
  | cons c cs ih =>
    intro out h hc
    rw [List.foldl_cons, List.foldl_cons]
    obtain ⟨e1, e2⟩ := red_step_st h (hc c List.mem_cons_self)
    rw [← e1]
    exact ih _ e2 (fun x hx => hc x (List.mem_cons_of_mem _ hx))
theorem redF_state {n : Nat} {cs : List RCross} (h : ∀ c ∈ cs, 0 ≤ c.1 ∧ c.1 ≤ (n : Int) - 2) : twSt n (redF cs) = twSt n cs ∧ ∀ x ∈ redF cs, 0 ≤ x.1 ∧ x.1 ≤ (n : Int) - 2 := red_state cs [] (fun _ hx => by simp at hx) h
theorem redF_valid {n : Nat} {cs : List RCross} (h : crossesB n cs = true) : crossesB n (redF cs) = true := by
  obtain ⟨h1, h2, h3⟩ := crosses_len h
  have h4 := (redF_state h3).2
  have h5 := redF_all cs
  refine crosses_t (inB_iff.2 h1) (by omega) ?_
  rw [List.all_eq_true]
  intro c hc
  exact inB_iff.2 (h4 c hc)
theorem redF_order {n : Nat} {cs : List RCross} (h : crossesB n cs = true) : orderF n (redF cs) = orderF n cs := by rw [← twSt_fst, ← twSt_fst, (redF_state (crosses_len h).2.2).1]
theorem redF_wound {n : Nat} {cs : List RCross} (h : crossesB n cs = true) : woundL n (redF cs) = woundL n cs := by
  unfold woundL twL
  rw [(redF_state (crosses_len h).2.2).1]
/- going home -/
theorem home_order {n : Nat} {cs : List RCross} (h : crossesB n cs = true) : orderF n (cs ++ homeL n cs) = upN n := by
  have h3 := (crosses_len h).2.2
  rw [homeL_t h]
  have h1 := (swaps_home _ n (orderF n cs) (IsOrd.order h3) rfl).2
  unfold orderF at h1 ⊢
  rw [List.foldl_append, List.foldl_map]
  exact h1
open Go.RowKit
def slLen : Value → Nat
 | .slice _ n _ => n
 | _ => 0
def boolN : Value → Nat
 | .bool b => if b = true then 1 else 0
 | _ => 0
def Apart (v u : Value) : Prop := ∀ b ∈ v.ownBlock.toList, b ∉ u.ownBlock.toList
structure SortSt (m : Nat) (l d o : List Int) : Prop where
 ord : IsOrd m o
 eq : swapsF l = d ++ swapsF o
theorem SortSt.len {m : Nat} {l d o : List Int} (h : SortSt m l d o) : d.length + inv o = inv l := by
 have := congrArg List.length h.eq
 rw [swapsF_len, List.length_append, swapsF_len] at this
 exact this.symm
theorem SortSt.step {m : Nat} {l d o : List Int} (h : SortSt m l d o) {k : Nat} (hk : FirstDesc o k) : SortSt m l (d ++ [(k : Int)]) (swapL o k) := by
 refine ⟨h.ord.swap (by have := hk.lt; rwa [h.ord.len] at this), ?_⟩
 rw [h.eq, swapsF_step hk, List.append_assoc]; rfl
theorem inv_49 {m : Nat} {l : List Int} (h : IsOrd m l) (hm : m ≤ 7) : inv l ≤ 49 := by
 have h1 := inv_le l
 rw [h.len] at h1
 have : m * m ≤ 7 * 7 := Nat.mul_le_mul hm hm
 omega
theorem SortSt.end_ {m : Nat} {l d o : List Int} (h : SortSt m l d o) (h0 : inv o = 0) : swapsF l = d := by rw [h.eq, swapsF_zero h0, List.append_nil]
def UpTo (o : List Int) (k : Nat) : Prop := ∀ j (_ : j < k) (h : j + 1 < o.length), o[j] < o[j + 1]
theorem UpTo.zero (o : List Int) : UpTo o 0 := fun j h => absurd h (by omega)
theorem UpTo.succ {o : List Int} {k : Nat} (h : UpTo o k) (hk : k + 1 < o.length) (hx : o[k] < o[k + 1]) : UpTo o (k + 1) := fun j hj h1 => by
 rcases Nat.lt_succ_iff_lt_or_eq.1 hj with h2 | rfl
 ·exact h j h2 h1
 ·exact hx
theorem UpTo.all {o : List Int} {k : Nat} (h : UpTo o k) (hk : o.length ≤ k + 1) : inv o = 0 := no_desc o (fun j hj => h j (by omega) hj)
theorem UpTo.first {m : Nat} {o : List Int} {k : Nat} (h : UpTo o k) (ho : IsOrd m o) (hk : k + 1 < o.length) (hx : ¬ o[k] < o[k + 1]) : FirstDesc o k :=
 ⟨hk, fun j hj => h j hj (by omega), by have := ho.ne (i := k) (j := k + 1) (by omega) hk (by omega); omega⟩
theorem own_lt {w : World} {B : Nat} {e : TypeId} {size n : Nat} {v : Value} {xs : List Value} (h : w.ownsRow B e size v n xs) : ∀ b ∈ v.ownBlock.toList, B ≤ b ∧ b < w.heap.size := fun b hb => (fresh_of h).2 b hb
theorem apart_new {w w' : World} {B B' n n' : Nat} {e e' : TypeId} {size size' : Nat} {v u : Value} {xs xs' : List Value} (h : w'.ownsRow B e size v n xs) (hu : w.ownsRow B' e' size' u n' xs') (hB : w.heap.size ≤ B) : Apart v u := fun b hb hb' => by
 have h1 := (own_lt h b hb).1
 have h2 := (own_lt hu b hb').2
 omega
theorem apart_grow {w : World} {B n : Nat} {e : TypeId} {size : Nat} {v u u' : Value} {xs : List Value} (h : w.ownsRow B e size v n xs) (hap : Apart v u) {N : Nat} (hN : w.heap.size ≤ N) (hat : u'.ownBlock = u.ownBlock ∨ u'.ownBlock = some N) : Apart v u' := fun b hb hb' => by
 rcases hat with e | e
 ·rw [e] at hb'; exact hap b hb hb'
 ·rw [e] at hb'
  have h1 := (own_lt h b hb).2
  simp at hb'
  omega
set_option maxHeartbeats 4000000 in
set_option maxRecDepth 100000 in
theorem specSorting_any (m : Nat) (v : Value) (l : List Int) (w : World) (h : RdL cInt 1 w v l) (hord : IsOrd m l) (hm : 1 ≤ m ∧ m ≤ 7) :
  Calls Tryz.prog 173 #[v] w fun e w' => ∃ v', e = .returned v' ∧ w'.ownsRow w.heap.size 3 1 v' (swapsF l).length ((swapsF l).flatMap cInt) ∧ Below w.heap.size w w' := by
 have h0 := h
 obtain ⟨A, c, rfl, h1, h2⟩ := h.form
 obtain ⟨iI, hiI, hzI0, hzI1, hzI2⟩ := info_parts infoInt
 have hl7 : l.length ≤ 7 := by rw [hord.len]; omega
 have hi49 := inv_49 hord hm.2
 have HO := Lib.hid hord
 have HS0 : Hid (SortSt m l [] l) := ⟨hord, rfl⟩
 clear hord
 have hownA := World.ownsRow_made (size := 1) (e := 3) w #[] 0 (Nat.le_refl _) (by simp [maxLen]) rfl
 have hown1 : ((w.alloc (.cells #[] 3)).alloc (.cells #[] 3)).ownsRow (w.heap.size + 1) 3 1 (.slice (some ⟨w.heap.size + 1, 0, none⟩) 0 0) 0 [] := by
  have := World.ownsRow_made (size := 1) (e := 3) (w.alloc (.cells #[] 3)) #[] 0 (Nat.le_refl _) (by simp [maxLen]) rfl
  simpa using this
 have hownB := hownA.alloc (.cells #[] 3)
 have hal : Below w.heap.size w ((w.alloc (.cells #[] 3)).alloc (.cells #[] 3)) := ((Below.refl _ _).alloc (Nat.le_refl _) _).alloc (by simp) _
 have h3 := h0.below hal
 go_enter Tryz.func173, Tryz.ntmps173
 go_wp2_with (at_builtin; refine wpList_append_empty _ rfl (.tmp 7) (.tmp 8) _ rfl (w.heap.size + 1) 3 iI _ 1 8 Tryz.underlying26 hiI hzI0 hzI1 hzI2 rfl (by omega) (w.heap.size + 1) rfl hown1 _ l.length (l.flatMap cInt) rfl h3 (oneCell_flat cInt_one l) (by simp [maxLen] <;> omega) (by omega) (by simp) ?_; intro v1 w1 own1 b1 at1)
 have hb1 : Below w.heap.size w w1 := Below.trans hal (b1.mono (by simp <;> omega))
 have hz1 := hb1.size
 have hp1 := own_below hownB b1
 have hap1 : Apart v1 (.slice (some ⟨w.heap.size, 0, none⟩) 0 0) := fun b hb hb' => by
  have := (own_lt own1 b hb).1
  simp [Value.ownBlock] at hb'
  omega
 have HAP := Lib.hid hap1
 have own1' := own_mono own1 (Nat.zero_le _)
 clear hownA hown1 hownB hal h3 b1 at1 own1 hap1
 obtain ⟨A1, c1, rfl, _, _⟩ := (RdS.of_own own1').form
 go_wp2_with fail
 go_loopw [3, 4, 5] (fun p q _ wr => ∃ d o : List Int, wr.ownsRow w.heap.size 3 1 p d.length (d.flatMap cInt) ∧ wr.ownsRow 0 3 1 q o.length (o.flatMap cInt) ∧ Hid (Apart q p) ∧ Hid (SortSt m l d o) ∧ Below w.heap.size w wr) (fun p _ _ _ => 49 - slLen p)
 case atStart => exact ⟨[], l, hp1, own1', HAP, HS0, hb1⟩
 case round =>
  obtain ⟨d, o, hp, hq, hap, hst, hb⟩ := hrel
  clear hp1 own1' HAP HS0 hb1 hz1
  have hrq : RdL cInt 1 wr _ o := RdS.of_own hq
  obtain ⟨Ap, cp, rfl, _, _⟩ := (RdS.of_own hp).form
  obtain ⟨Aq, cq, rfl, _, _⟩ := hrq.form
  have hsl := hst.out.len
  have hol : o.length ≤ 7 := by rw [hst.out.ord.len]; omega
  have Hok := Lib.hid (hst.out.ord.okB hm)
  have hz := hb.size
  have hC := specCountInv_any _ o wr hrq Hok.out
  obtain ⟨I, hI⟩ : ∃ I, inv o = I := ⟨_, rfl⟩
  rw [hI] at hC hsl
  have HI := Lib.hid hI
  clear hI
  have hd49 : d.length + I ≤ 49 := by omega
  clear hsl
  go_wp2_with fail
  refine hC.mono ?_
  rintro e w2 ⟨rfl, hb2⟩
  have hz2 := hb2.size
  have hp2 := own_below hp hb2
  have hq2 := own_below hq hb2
  have hrq2 : RdL cInt 1 w2 _ o := RdS.of_own hq2
  have hbb : Below w.heap.size w w2 := bl_trans hb hb2
  clear hp hq hC hb hb2
  by_cases hI0 : I = 0
  ·subst hI0
   clear hd49
   go_wp2_with fail
   go_ret
   rw [hst.out.end_ HI.out]
   exact ⟨_, rfl, hp2, hbb⟩
  ·have hI1 : 0 < I := by omega
   have hol2 : 2 ≤ o.length := by
    apply Classical.byContradiction
    intro hn
    have := (UpTo.zero o).all (by omega)
    rw [HI.out] at this
    omega
   clear hI0
   have hIi : (0 : Int) < (I : Int) := by omega
   go_wp2_with fail
   go_loopw [5] (fun i wi => ∃ (k d2 : Nat), i = .int .i64 k ∧ k + 1 < o.length ∧ Hid (UpTo o k) ∧ wi = w2.drewN d2) (fun i _ => 7 - (intOf i).toNat)
   case atStart => exact ⟨0, 0, rfl, by omega, UpTo.zero o, rfl⟩
   case round =>
    obtain ⟨k, d2, rfl, hk, hup, rfl⟩ := hrel
    obtain ⟨g1, off1, rfl, hg1, hc1⟩ := hrq2.cell (k := k) cInt_len (by omega) (by omega)
    obtain ⟨g2, off2, hA2, hg2, hc2⟩ := hrq2.cell (k := k + 1) cInt_len (by omega) hk
    injection hA2 with hA2
    injection hA2 with e1 e2
    subst e1 e2
    have k1 := hc1 0 _ rfl
    have k2 := hc2 0 _ rfl
    simp only [Nat.add_zero, Nat.mul_one] at k1 k2
    clear hc1 hc2
    have e1 : ((k : Int) + 1).toNat = k + 1 := by omega
    have HX : Hid (o[k] < o[k + 1] → UpTo o (k + 1)) := fun hx => hup.out.succ hk hx
    have HY : Hid (¬ o[k] < o[k + 1] → FirstDesc o k) := fun hx => hup.out.first hst.out.ord hk hx
    by_cases hx : o[k] < o[k + 1]
    ·have hk2 : k + 1 + 1 < o.length := by
      apply Classical.byContradiction
      intro hn
      have := (HX.out hx).all (by omega)
      rw [HI.out] at this
      omega
     have hxu := HX.out hx
     have HXU := Lib.hid hxu
     clear hxu HX HY
     have hx' : decide (o[k] < o[k + 1]) = true := decide_eq_true hx
     generalize o[k + 1] = y at *
     generalize o[k] = x at *
     go_wp2_with fail
     go_quiet (fail)
     rename_i nq
     go_wp2_with fail
     go_roundw
     case rel => exact ⟨k + 1, _, by go_num, hk2, HXU.out, rfl⟩
     case measure => simp [intOf]; omega
    ·have hfd := HY.out hx
     have HFD := Lib.hid hfd
     clear hfd HX HY
     have hx' : decide (o[k] < o[k + 1]) = false := decide_eq_false hx
     generalize o[k + 1] = y at *
     generalize o[k] = x at *
     go_wp2_with fail
     go_quiet (fail)
     rename_i nq
     have hq3 := own_below hq2 (below_drewN (Below.refl w2.heap.size w2) nq)
     go_wp2_with fail
     refine (specSwap_any _ o k _ (hrq2.below (below_drewN (Below.refl _ _) _)) Hok.out hk).mono ?_
     rintro e w3 ⟨v3, rfl, own3, hb3⟩
     obtain ⟨A3, c3, rfl, _, _⟩ := (RdS.of_own own3).form
     have hb23 : Below w2.heap.size w2 w3 := bl_trans (below_drewN (Below.refl _ _) _) hb3
     have hz3 := hb23.size
     have hp3 := own_below hp2 hb23
     have own3' : w3.ownsRow w2.heap.size 3 1 (.slice A3 o.length c3) (swapL o k).length ((swapL o k).flatMap cInt) := by rw [swapL_len]; exact own_mono own3 (by simp)
     have hap3 := Lib.hid (apart_new own3' hp2 (Nat.le_refl _))
     have hbb3 : Below w.heap.size w w3 := bl_trans hbb hb23
     have HS3 : Hid (SortSt m l (d ++ [(k : Int)]) (swapL o k)) := hst.out.step HFD.out
     have H3 := Lib.hid own3'
     clear own3 own3' hb3 hb23 hq3 hq2 hrq2 hrq
     go_wp2_with (at_builtin; refine wpList_appendB _ rfl (.tmp 31) (.tmp 33) _ rfl w.heap.size 3 iI _ 1 8 Tryz.underlying26 hiI hzI0 hzI1 hzI2 rfl (by omega) _ d.length (d.flatMap cInt) rfl (hp3.alloc _) _ 1 [.int .i64 k] rfl (rdS_new w3 #[.int .i64 k] _ 1 1 rfl (by simp [maxLen])) (by simp [Value.oneCell']) (by simp [maxLen]; omega) (by omega) (by simp; omega) ?_; intro v4 w4 own4 gr4 at4)
     obtain ⟨A4, c4, rfl, _, _⟩ := (RdS.of_own own4).form
     have hch := Chg.of_grown gr4
     have hb4 := below_own (hp3.alloc _) gr4 (by simp; omega)
     have q4 := Lib.hid (own_chg (H3.out.alloc _) hch hap3.out)
     have ap4 := Lib.hid (apart_grow (H3.out.alloc _) hap3.out (Nat.le_refl _) at4)
     clear gr4 at4 hch
     go_wp2_with fail
     go_roundw
     case rel => exact ⟨d ++ [(k : Int)], swapL o k, by rw [List.length_append, List.flatMap_append]; exact own4, own_mono q4.out (Nat.zero_le _), ap4.out, HS3.out, (hbb3.alloc (by omega) _).trans hb4⟩
     case measure => simp [slLen]; omega
def wayL (sw : List Int) : List RCross := sw.map (fun k => (k, true))
theorem wayL_snoc (sw : List Int) {k : Nat} (h : k < sw.length) : wayL (sw.take (k + 1)) = wayL (sw.take k) ++ [(sw[k], true)] := by unfold wayL; rw [take_snoc_l sw h, List.map_append]; rfl
theorem wayL_len (sw : List Int) : (wayL sw).length = sw.length := by simp [wayL]
set_option maxHeartbeats 4000000 in
set_option maxRecDepth 100000 in
theorem specBringHome_any (n : Int) (v : Value) (cs : List RCross) (w : World) (h : RdL cCross 2 w v cs) :
  Calls Tryz.prog 152 #[.int .i64 n, v] w fun e w' => ∃ v', e = .returned (.tuple #[v', .bool (crossesB n cs)]) ∧ w'.ownsRow w.heap.size 85 2 v' (homeL n cs).length ((homeL n cs).flatMap cCross) ∧ Below w.heap.size w w' := by
 have h0 := h
 obtain ⟨A, c, rfl, h1, h2⟩ := h.form
 obtain ⟨iX, hiX, hzX0, hzX1, hzX2⟩ := info_parts infoCross
 have hownA := World.ownsRow_made (size := 2) (e := 85) w #[] 0 (Nat.le_refl _) (by simp [maxLen]) rfl
 have hal : Below w.heap.size w (w.alloc (.cells #[] 85)) := (Below.refl _ _).alloc (Nat.le_refl _) _
 have h3 := h0.below hal
 go_enter Tryz.func152, Tryz.ntmps152
 go_wp2_with fail
 refine twoB (specCrossesOk_any n _ cs _ h3) (fun w1 hq hb1 => ?_) (fun w1 hq hb1 => ?_)
 ·obtain ⟨hn, hlen, hcs⟩ := crosses_len hq.out
  obtain ⟨m, rfl⟩ := Int.eq_ofNat_of_zero_le (show 0 ≤ n by omega)
  have hm : 1 ≤ m ∧ m ≤ 7 := by omega
  have hz1 := hb1.size
  simp at hz1
  have hb01 : Below w.heap.size w w1 := bl_trans hal hb1
  have hown1 := own_below hownA hb1
  have hO := specOrderAfter_any (m : Int) _ cs w1 (h0.below hb01)
  rw [ordR_t hq.out] at hO
  have HOrd := Lib.hid (IsOrd.order hcs)
  have HQ := Lib.hid hq.out
  have HH := Lib.hid (homeL_t hq.out)
  have Hm := Lib.hid hm
  clear hal h3 hownA hb1 hq hcs hn
  go_wp2_with fail
  refine hO.mono ?_
  rintro e w2 ⟨v2, rfl, own2, hb2⟩
  have hr2 : RdL cInt 1 w2 v2 (orderF m cs) := RdS.of_own own2
  have hb02 : Below w.heap.size w w2 := bl_trans hb01 hb2
  have hz2 := hb2.size
  have hown2 := own_below hown1 hb2
  clear own2 hb2 hO hown1 hb01
  obtain ⟨A2, c2, rfl, _, _⟩ := hr2.form
  have hi49 := inv_49 HOrd.out Hm.out.2
  rw [← swapsF_len] at hi49
  go_wp2_with fail
  refine (specSorting_any m _ (orderF m cs) _ hr2 HOrd.out Hm.out).mono ?_
  rintro e w3 ⟨v3, rfl, own3, hb3⟩
  have hb03 : Below w.heap.size w w3 := bl_trans hb02 hb3
  have hz3 := hb3.size
  have hown3 := own_below hown2 hb3
  have hap3 := Lib.hid (apart_new own3 hown2 (Nat.le_refl _))
  have own3' := own_mono own3 (Nat.zero_le _)
  obtain ⟨sw, hsw⟩ : ∃ sw, swapsF (orderF m cs) = sw := ⟨_, rfl⟩
  rw [hsw] at own3' hi49
  have HH2 : Hid (homeL (m : Int) cs = wayL sw) := by rw [← hsw]; exact HH.out
  clear own3 hb3 hr2 hown2 hb02 HH hsw
  obtain ⟨A3, c3, rfl, _, _⟩ := (RdS.of_own own3').form
  go_wp2_with fail
  go_loopw [6, 8] (fun p i wr => ∃ k : Nat, k ≤ sw.length ∧ i = .int .i64 k ∧ wr.ownsRow w.heap.size 85 2 p k ((wayL (sw.take k)).flatMap cCross) ∧ wr.ownsRow 0 3 1 (.slice A3 sw.length c3) sw.length (sw.flatMap cInt) ∧ Hid (Apart (.slice A3 sw.length c3) p) ∧ Below w.heap.size w wr) (fun _ i _ => sw.length - (intOf i).toNat)
  case atStart => exact ⟨0, Nat.zero_le _, rfl, hown3, own3', hap3, hb03⟩
  case round =>
   obtain ⟨k, hk, rfl, hp, hs, hap, hb⟩ := hrel
   clear hown3 own3' hap3 hb03
   have hz := hb.size
   obtain ⟨Ap, cp, rfl, _, _⟩ := (RdS.of_own hp).form
   by_cases hlt : k < sw.length
   ·have hrs : RdL cInt 1 wr (.slice A3 sw.length c3) sw := RdS.of_own hs
    obtain ⟨g, off, rfl, hg, hc⟩ := hrs.cell cInt_len (by omega) hlt
    have k0 := hc 0 _ rfl
    simp only [Nat.add_zero, Nat.mul_one] at k0
    clear hc
    have Hw := Lib.hid (wayL_snoc sw hlt)
    generalize sw[k] = x at *
    go_wp2_with (at_builtin; refine wpList_appendB _ rfl (.tmp 25) (.tmp 31) _ rfl w.heap.size 85 iX _ 2 16 Tryz.underlying32 hiX hzX0 hzX1 hzX2 rfl (by omega) _ k ((wayL (sw.take k)).flatMap cCross) rfl (hp.alloc _) _ 1 [.int .i64 x, .bool true] rfl (rdS_new wr #[.int .i64 x, .bool true] _ 2 1 rfl (by simp [maxLen])) (by simp [Value.oneCell']) (by simp [maxLen]; omega) (by omega) (by simp; omega) ?_; intro v4 w4 own4 gr4 at4)
    obtain ⟨A4, c4, rfl, _, _⟩ := (RdS.of_own own4).form
    have hch := Chg.of_grown gr4
    have hb4 := below_own (hp.alloc _) gr4 (by simp; omega)
    have q4 := Lib.hid (own_chg (hs.alloc _) hch hap.out)
    have ap4 := Lib.hid (apart_grow (hs.alloc _) hap.out (Nat.le_refl _) at4)
    clear gr4 at4 hch
    go_wp2_with fail
    go_roundw
    case rel => exact ⟨k + 1, by omega, by go_num, by rw [Hw.out, List.flatMap_append]; exact own4, q4.out, ap4.out, (hb.alloc (by omega) _).trans hb4⟩
    case measure => simp [intOf]; omega
   ·obtain rfl : k = sw.length := by omega
    rw [List.take_length] at hp
    go_wp2_with fail
    go_ret2
    rw [HQ.out, HH2.out, wayL_len]
    exact ⟨_, rfl, hp, hb⟩
 ·have hb01 : Below w.heap.size w w1 := bl_trans hal hb1
  have hown1 := own_below hownA hb1
  clear hal h3 hownA hb1
  go_wp2_with fail
  go_ret2
  rw [hq.out, homeL_f hq.out]
  exact ⟨_, rfl, hown1, hb01⟩
open Go.RowKit
theorem knows_ix (p : RPl) (x : Int) : knowsB p x = true ↔ 0 ≤ idxF p.1 x := by
 unfold knowsB
 rw [List.any_eq_true]
 constructor
 ·rintro ⟨y, hy, e⟩
  have := of_decide_eq_true e
  subst this
  rw [idxF_mem hy]; omega
 ·intro h
  apply Classical.byContradiction
  intro hno
  have : idxF p.1 x = -1 := idxF_none (List.all_eq_true.2 (fun y hy => neB_t (fun e => hno ⟨y, hy, decide_eq_true e⟩)))
  omega
theorem playersB_fr {pl : List RPl} (h : playersB pl = true) : ∀ r ∈ pl, 0 ≤ r.2 ∧ r.2 ≤ 2 := fun r hr => by
 rw [playersB, Bool.and_eq_true] at h
 have := List.all_eq_true.1 h.1 r hr
 rw [playerB, Bool.and_eq_true] at this
 exact inB_iff.1 this.2
def RetCast (b : Bool) (w : World) (e : Ending) (w' : World) : Prop := ∃ vo, e = .returned (.tuple #[vo, .bool b]) ∧ Below w.heap.size w w'
structure Hands (pl : List RPl) (ld fr : List Int) : Prop where
 l1 : ld.length = pl.length
 l2 : fr.length = pl.length
 at_ : ∀ p (h : p < pl.length) (h1 : p < ld.length) (h2 : p < fr.length), fr[p] = pl[p].2 - ld[p] ∧ 0 ≤ fr[p] ∧ 0 ≤ ld[p] ∧ pl[p].2 ≤ 2
theorem Hands.start {pl : List RPl} (h : ∀ r ∈ pl, 0 ≤ r.2 ∧ r.2 ≤ 2) : Hands pl (zeroL pl.length) (pl.map (·.2)) := by
 refine ⟨by simp [zeroL], by simp, fun p h0 h1 h2 => ?_⟩
 have := h _ (List.getElem_mem h0)
 simp [zeroL]
 omega
theorem Hands.can {pl : List RPl} {ld fr : List Int} (h : Hands pl ld fr) {k : Nat} (hk : k < pl.length) (hf : k < fr.length) (x : Int) : canAt pl x ld k = (decide (fr[k] ≠ 0) && knowsB pl[k] x) := by
 have h1 := h.l1
 have := h.at_ k hk (by omega) hf
 rw [canAt_eq hk (by omega)]
 congr 1
 simp only [decide_eq_decide]
 omega
theorem Hands.less {pl : List RPl} {ld fr : List Int} (h : Hands pl ld fr) {k : Nat} (hf : k < fr.length) (h0 : fr[k] ≠ 0) : Hands pl (bump ld k) (fr.set k (fr[k] - 1)) := by
 have h1 := h.l1
 have h2 := h.l2
 have hb := bump_eq (ld := ld) (p := k) (by omega)
 refine ⟨by rw [bump_len]; exact h1, by simpa using h2, fun p hp h3 h4 => ?_⟩
 have hp' := h.at_ p hp (by omega) (by omega)
 rw [List.getElem_set]
 have e : (bump ld k)[p] = if k = p then ld[k]'(by omega) + 1 else ld[p]'(by omega) := by simp only [hb, List.getElem_set]
 rw [e]
 by_cases hkp : k = p
 ·subst hkp; rw [if_pos rfl, if_pos rfl]; omega
 ·rw [if_neg hkp, if_neg hkp]; exact hp'
theorem set_back {fr : List Int} {k : Nat} (hk : k < fr.length) (x : Int) : (fr.set k x).set k fr[k] = fr := by rw [List.set_set, List.set_getElem_self]
theorem row_len0 (l : List Int) : (l.flatMap cInt).length = l.length * 1 := by rw [Nat.mul_one]; exact row_len' l
 where row_len' : ∀ l : List Int, (l.flatMap cInt).length = l.length
 | [] => rfl
 | a :: l => by rw [List.flatMap_cons, List.length_append, row_len' l, List.length_cons]; show 1 + l.length = _; omega
abbrev BX (gc gp gk gl gf gr go gF : Nat) : List Nat := [gc, gp, gk, gl, gf, gr, go, gF]
structure CS0 (w0 w : World) (gc gp gk gl gf gr go gF : Nat) (vp vk vl vf vr : Value) (fr : List Int) (fd : Bool) : Prop where
 base : ∀ b ∈ BX gc gp gk gl gf gr go gF, w0.heap.size ≤ b
 nd : (BX gc gp gk gl gf gr go gF).Nodup
 below : Below w0.heap.size w0 w
 bp : Loc w gp [vp]
 bk : Loc w gk [vk]
 bl : Loc w gl [vl]
 bf : Loc w gf [vf]
 br : Loc w gr [vr]
 bo : ∃ vo, Loc w go [vo]
 bF : Loc w gF [.bool fd]
 free : w.ownsRow w0.heap.size 3 1 vf fr.length (fr.flatMap cInt)
 apf : ∀ b ∈ vf.ownBlock.toList, b ∉ BX gc gp gk gl gf gr go gF
structure CS (w0 w : World) (gc gp gk gl gf gr go gF : Nat) (vp vk vl vf vr : Value) (cast fr : List Int) (fd : Bool) : Prop where
 rest : CS0 w0 w gc gp gk gl gf gr go gF vp vk vl vf vr fr fd
 cst : ∃ vc, Loc w gc [vc] ∧ w.ownsRow w0.heap.size 3 1 vc cast.length (cast.flatMap cInt) ∧ ∀ b ∈ vc.ownBlock.toList, b ∉ BX gc gp gk gl gf gr go gF ++ vf.ownBlock.toList
theorem loc_lt {w : World} {b : Nat} {v : Value} (h : Loc w b [v]) : b < w.heap.size := World.block_lt_of_cell? w _ (h 0 v rfl).1
section
variable {w0 w w' : World} {gc gp gk gl gf gr go gF : Nat} {vp vk vl vf vr : Value} {cast fr : List Int} {fd : Bool}
theorem CS0.chg (h : CS0 w0 w gc gp gk gl gf gr go gF vp vk vl vf vr fr fd) {S : List Nat} (hc : Chg S w w') (hS : ∀ b ∈ S, w0.heap.size ≤ b) (hn : ∀ b ∈ [gp, gk, gl, gf, gr, go, gF], b ∉ S) (hf : ∀ b ∈ vf.ownBlock.toList, b ∉ S) : CS0 w0 w' gc gp gk gl gf gr go gF vp vk vl vf vr fr fd := by
 obtain ⟨vo, h4⟩ := h.bo
 exact ⟨h.base, h.nd, Below.chg h.below hc h.below.size hS, h.bp.chg hc (hn _ (by simp)), h.bk.chg hc (hn _ (by simp)), h.bl.chg hc (hn _ (by simp)), h.bf.chg hc (hn _ (by simp)), h.br.chg hc (hn _ (by simp)), ⟨vo, h4.chg hc (hn _ (by simp))⟩, h.bF.chg hc (hn _ (by simp)), own_chg h.free hc hf, h.apf⟩
theorem CS.keep (h : CS w0 w gc gp gk gl gf gr go gF vp vk vl vf vr cast fr fd) (hb : Below w.heap.size w w') : CS w0 w' gc gp gk gl gf gr go gF vp vk vl vf vr cast fr fd := by
 obtain ⟨vc, h1, h2, h3⟩ := h.cst
 exact ⟨h.rest.chg (Chg.of_below hb []) (by simp) (by simp) (by simp), vc, h1.below hb, own_below h2 hb, h3⟩
theorem CS.drewN (h : CS w0 w gc gp gk gl gf gr go gF vp vk vl vf vr cast fr fd) (n : Nat) : CS w0 (w.drewN n) gc gp gk gl gf gr go gF vp vk vl vf vr cast fr fd := by
 obtain ⟨vc, h1, h2, h3⟩ := h.cst
 let c0 := Chg.refl [] w
 exact ⟨h.rest.chg (S := []) (w' := w.drewN n) ⟨c0.os, c0.tape, c0.output, c0.size, c0.block⟩ (by simp) (by simp) (by simp), vc, h1.drewN n, h2, h3⟩
theorem CS.free_at (h : CS w0 w gc gp gk gl gf gr go gF vp vk vl vf vr cast fr fd) {k : Nat} (hk : k < fr.length) :
  ∃ g c, vf = .slice (some ⟨g, 0, none⟩) fr.length c ∧ w.cell? ⟨g, k, none⟩ = some (.int .i64 fr[k]) ∧ w.frozen? ⟨g, k, none⟩ = false ∧ ∀ x, CS w0 (w.setCell ⟨g, k, none⟩ (.int .i64 x)) gc gp gk gl gf gr go gF vp vk vl vf vr cast (fr.set k x) fd := by
 obtain ⟨h, vc, h1, h2, h3⟩ := h
 have hf := h.free
 obtain ⟨g, c, rfl⟩ := own_form hf (by omega)
 obtain ⟨vo, h4⟩ := h.bo
 have hg : g ∉ BX gc gp gk gl gf gr go gF := h.apf g (by simp [Value.ownBlock])
 refine ⟨g, c, rfl, row_cell hf hk, hf.frozenAt k, fun x => ?_⟩
 have hch : Chg [g] w (w.setCell ⟨g, k, none⟩ (.int .i64 x)) := chg_set (Chg.refl _ _) (by simp)
 have hn : ∀ b ∈ BX gc gp gk gl gf gr go gF, b ∉ [g] := fun b hb hb' => by simp at hb'; subst hb'; exact hg hb
 refine ⟨⟨h.base, h.nd, h.below.setCell (own_lt hf g (by simp [Value.ownBlock])).1 _,
  h.bp.chg hch (hn _ (by simp)), h.bk.chg hch (hn _ (by simp)), h.bl.chg hch (hn _ (by simp)), h.bf.chg hch (hn _ (by simp)), h.br.chg hch (hn _ (by simp)), ⟨vo, h4.chg hch (hn _ (by simp))⟩, h.bF.chg hch (hn _ (by simp)), ?_, h.apf⟩,
  vc, h1.chg hch (hn _ (by simp)), own_chg h2 hch (fun b hb hb' => h3 b hb (by simp at hb'; subst hb'; simp [Value.ownBlock])), h3⟩
 have := row_stored hf k x
 rw [List.length_set]; exact this
theorem CS0.put {vc vc' : Value} {cast' : List Int} (h : CS0 w0 w gc gp gk gl gf gr go gF vp vk vl vf vr fr fd) (h1 : Loc w gc [vc]) (hown : w.ownsRow w0.heap.size 3 1 vc' cast'.length (cast'.flatMap cInt)) (hap : ∀ b ∈ vc'.ownBlock.toList, b ∉ BX gc gp gk gl gf gr go gF ++ vf.ownBlock.toList) :
  CS w0 (w.setCell ⟨gc, 0, none⟩ vc') gc gp gk gl gf gr go gF vp vk vl vf vr cast' fr fd := by
 have hch : Chg [gc] w (w.setCell ⟨gc, 0, none⟩ vc') := chg_set (Chg.refl _ _) (by simp)
 have hn : ∀ b ∈ [gp, gk, gl, gf, gr, go, gF], b ∉ [gc] := fun b hb hb' => by
  have := h.nd
  rw [List.nodup_cons] at this
  simp at hb'
  subst hb'
  exact this.1 hb
 exact ⟨h.chg hch (fun b hb => by simp at hb; subst hb; exact h.base b (by simp)) hn (fun b hb hb' => h.apf b hb (by simp at hb'; subst hb'; simp)),
  vc', h1.set (i := 0) (v := vc) rfl, own_chg hown hch (fun b hb hb' => hap b hb (by simp at hb'; subst hb'; simp)), hap⟩
theorem CS0.grown {vc : Value} {n : Nat} {xs : List Value} (h : CS0 w0 w gc gp gk gl gf gr go gF vp vk vl vf vr fr fd) (hL : Loc w gc [vc]) (ho : w.ownsRow w0.heap.size 3 1 vc n xs) (hap : ∀ b ∈ vc.ownBlock.toList, b ∉ BX gc gp gk gl gf gr go gF ++ vf.ownBlock.toList) (hg : w.grownBy w' vc.ownBlock) {v' : Value}
  (hat : v'.ownBlock = vc.ownBlock ∨ v'.ownBlock = some w.heap.size) :
  (∀ c', w'.ownsRow w0.heap.size 3 1 v' c'.length (List.flatMap cInt c') → CS w0 (w'.setCell ⟨gc, 0, none⟩ v') gc gp gk gl gf gr go gF vp vk vl vf vr c' fr fd) ∧ Loc w' gc [vc] := by
 have hch := Chg.of_grown hg
 have hn : ∀ b ∈ BX gc gp gk gl gf gr go gF, b ∉ vc.ownBlock.toList := fun b hb hb' => hap b hb' (List.mem_append_left _ hb)
 have hF : ∀ b ∈ vf.ownBlock.toList, b ∉ vc.ownBlock.toList := fun b hb hb' => hap b hb' (List.mem_append_right _ hb)
 obtain ⟨vo, h4⟩ := h.bo
 have hap' : ∀ b ∈ v'.ownBlock.toList, b ∉ BX gc gp gk gl gf gr go gF ++ vf.ownBlock.toList := fun b hb hb' => by
  rcases hat with e | e
  ·rw [e] at hb; exact hap b hb hb'
  ·rw [e] at hb
   have e2 : b = w.heap.size := by simpa using hb
   subst e2
   have hlt : w.heap.size < w.heap.size := by
    rcases List.mem_append.1 hb' with h5 | h5
    ·simp only [List.mem_cons, List.not_mem_nil, or_false] at h5
     rcases h5 with e | e | e | e | e | e | e | e
     ·have := loc_lt hL; omega
     ·have := loc_lt h.bp; omega
     ·have := loc_lt h.bk; omega
     ·have := loc_lt h.bl; omega
     ·have := loc_lt h.bf; omega
     ·have := loc_lt h.br; omega
     ·have := loc_lt h4; omega
     ·have := loc_lt h.bF; omega
    ·exact (own_lt h.free _ h5).2
   omega
 have hL' := hL.chg hch (hn _ (by simp))
 exact ⟨fun c' hc' => CS0.put (h.chg hch (fun b hb => (own_lt ho b hb).1) (fun b hb => hn b (List.mem_cons_of_mem _ hb)) hF) hL' hc' hap', hL'⟩
theorem CS.pop {k : Int} (h : CS w0 w gc gp gk gl gf gr go gF vp vk vl vf vr (cast ++ [k]) fr fd) : ∃ g c, Loc w gc [.slice (some ⟨g, 0, none⟩) (cast.length + 1) c] ∧ cast.length + 1 ≤ c ∧ CS w0 (w.setCell ⟨gc, 0, none⟩ (.slice (some ⟨g, 0, none⟩) cast.length c)) gc gp gk gl gf gr go gF vp vk vl vf vr cast fr fd := by
 obtain ⟨h, vc, h1, h2, h3⟩ := h
 have hl : (cast ++ [k]).length = cast.length + 1 := by simp
 rw [hl] at h2
 obtain ⟨g, c, rfl⟩ := own_form h2 (by omega)
 obtain ⟨A', c', e, hle, _⟩ := (RdS.of_own h2).form
 injection e with _ _ e3
 subst e3
 refine ⟨g, c, h1, hle, h.put h1 ?_ h3⟩
 have := own_prefix h2 (m := cast.length) (by omega) (by omega)
 rw [List.flatMap_append, show cast.length * 1 = (cast.flatMap cInt).length from (row_len0 cast).symm, List.take_left'] at this
 ·exact this
 ·rfl
theorem CS.found {v : Value} (h : CS w0 w gc gp gk gl gf gr go gF vp vk vl vf vr cast fr fd) : CS w0 ((w.setCell ⟨go, 0, none⟩ v).setCell ⟨gF, 0, none⟩ (.bool true)) gc gp gk gl gf gr go gF vp vk vl vf vr cast fr true := by
 obtain ⟨h, vc, h1, h2, h3⟩ := h
 obtain ⟨vo, h4⟩ := h.bo
 have hch : Chg [go, gF] w ((w.setCell ⟨go, 0, none⟩ v).setCell ⟨gF, 0, none⟩ (.bool true)) := chg_set (chg_set (Chg.refl _ _) (by simp)) (by simp)
 have hnd := h.nd
 simp only [BX, List.nodup_cons, List.mem_cons, List.not_mem_nil, or_false, not_or] at hnd
 obtain ⟨n1, n2, n3, n4, n5, n6, n7, _⟩ := hnd
 have hL : Loc ((w.setCell ⟨go, 0, none⟩ v).setCell ⟨gF, 0, none⟩ (.bool true)) go [v] := (h4.set (i := 0) (v := vo) (u := v) rfl).far n7
 have hL2 : Loc ((w.setCell ⟨go, 0, none⟩ v).setCell ⟨gF, 0, none⟩ (.bool true)) gF [.bool true] := (h.bF.far (g := go) (i := 0) (u := v) (fun e => n7 e.symm)).set (i := 0) (v := .bool fd) rfl
 have nm : ∀ b, b ≠ go → b ≠ gF → b ∉ [go, gF] := fun b h1 h2 hb => by
  rcases List.mem_cons.1 hb with e | e
  ·exact h1 e
  ·exact h2 (List.mem_singleton.1 e)
 have hsub : ∀ b ∈ [go, gF], b ∈ BX gc gp gk gl gf gr go gF := fun b hb => by
  rcases List.mem_cons.1 hb with e | e
  ·subst e; simp
  ·rw [List.mem_singleton.1 e]; simp
 exact ⟨⟨h.base, h.nd, Below.chg h.below hch h.below.size (fun b hb => h.base b (hsub b hb)), h.bp.chg hch (nm _ n2.2.2.2.2.1 n2.2.2.2.2.2), h.bk.chg hch (nm _ n3.2.2.2.1 n3.2.2.2.2), h.bl.chg hch (nm _ n4.2.2.1 n4.2.2.2), h.bf.chg hch (nm _ n5.2.1 n5.2.2), h.br.chg hch (nm _ n6.1 n6.2), ⟨v, hL⟩, hL2,
  own_chg h.free hch (fun b hb hb' => h.apf b hb (hsub b hb')), h.apf⟩, vc, h1.chg hch (nm _ n1.2.2.2.2.2.1 n1.2.2.2.2.2.2), own_chg h2 hch (fun b hb hb' => h3 b hb (List.mem_append_left _ (hsub b hb'))), h3⟩
end
open Go.RowKit
theorem quietL1 {P : Program} {f : FuncId} {args : Array Value} {w : World} {n : Nat} {v : Value}
  (h : Calls P f args (w.drewN n) fun e w' => e = .returned v ∧ w.drewN n = w') : Calls P f args (w.drewN n) fun e w'' => e = .returned v ∧ ∃ m, w'' = w.drewN m :=
 h.mono fun _ _ ⟨he, hm⟩ => ⟨he, n, hm.symm⟩
set_option maxHeartbeats 1000000 in
theorem castF_any {w0 w : World} {gc gp gk gl gf gr go gF : Nat} {vp vl vf : Value} {cast fr : List Int} {fd : Bool} (A : Option Addr) (n c : Nat) (h : CS w0 w gc gp gk gl gf gr go gF vp (.func (.func 172) #[] #[.pointer (some ⟨go, 0, none⟩), .pointer (some ⟨gF, 0, none⟩)]) vl vf (.func (.func 177) #[] #[.pointer (some ⟨gc, 0, none⟩), .pointer (some ⟨gp, 0, none⟩), .pointer (some ⟨gk, 0, none⟩), .pointer (some ⟨gl, 0, none⟩), .pointer (some ⟨gf, 0, none⟩), .pointer (some ⟨gr, 0, none⟩)]) cast fr fd) :
  Calls Tryz.prog 172 #[.slice A n c, .pointer (some ⟨go, 0, none⟩), .pointer (some ⟨gF, 0, none⟩)] w fun e w' => e = .returned (.bool false) ∧ CS w0 w' gc gp gk gl gf gr go gF vp (.func (.func 172) #[] #[.pointer (some ⟨go, 0, none⟩), .pointer (some ⟨gF, 0, none⟩)]) vl vf (.func (.func 177) #[] #[.pointer (some ⟨gc, 0, none⟩), .pointer (some ⟨gp, 0, none⟩), .pointer (some ⟨gk, 0, none⟩), .pointer (some ⟨gl, 0, none⟩), .pointer (some ⟨gf, 0, none⟩), .pointer (some ⟨gr, 0, none⟩)]) cast fr true := by
 have H := Lib.hid (h.found (v := .slice A n c))
 obtain ⟨vo, h4⟩ := h.rest.bo
 have b0 := (h4 0 _ rfl).1
 have f0 := (h4 0 _ rfl).2
 have hnd := h.rest.nd
 simp only [BX, List.nodup_cons, List.mem_cons, List.not_mem_nil, or_false, not_or] at hnd
 have hne : ¬ go = gF := hnd.2.2.2.2.2.2.1
 have hne' : ¬ gF = go := fun e => hne e.symm
 have b1 := (h.rest.bF 0 _ rfl).1
 have f1 := (h.rest.bF 0 _ rfl).2
 clear h h4 hnd
 go_enter Tryz.func172, Tryz.ntmps172
 go_wp2_with fail
 go_ret
 exact ⟨rfl, H.out⟩
theorem act68cr {a : Act} (h : a.tmps.size = 68) (hd : a.defers = []) : ∃ x0 x1 x2 x3 x4 x5 x6 x7 x8 x9 x10 x11 x12 x13 x14 x15 x16 x17 x18 x19 x20 x21 x22 x23 x24 x25 x26 x27 x28 x29 x30 x31 x32 x33 x34 x35 x36 x37 x38 x39 x40 x41 x42 x43 x44 x45 x46 x47 x48 x49 x50 x51 x52 x53 x54 x55 x56 x57 x58 x59 x60 x61 x62 x63 x64 x65 x66 x67 : Value, a = ⟨#[x0, x1, x2, x3, x4, x5, x6, x7, x8, x9, x10, x11, x12, x13, x14, x15, x16, x17, x18, x19, x20, x21, x22, x23, x24, x25, x26, x27, x28, x29, x30, x31, x32, x33, x34, x35, x36, x37, x38, x39, x40, x41, x42, x43, x44, x45, x46, x47, x48, x49, x50, x51, x52, x53, x54, x55, x56, x57, x58, x59, x60, x61, x62, x63, x64, x65, x66, x67], []⟩ := by
 obtain ⟨⟨l⟩, d⟩ := a
 subst hd
 match l, h with
 | x0 :: x1 :: x2 :: x3 :: x4 :: x5 :: x6 :: x7 :: x8 :: x9 :: x10 :: x11 :: x12 :: x13 :: x14 :: x15 :: x16 :: x17 :: x18 :: x19 :: x20 :: x21 :: x22 :: x23 :: x24 :: x25 :: x26 :: x27 :: x28 :: x29 :: x30 :: x31 :: x32 :: x33 :: x34 :: x35 :: x36 :: x37 :: x38 :: x39 :: x40 :: x41 :: x42 :: x43 :: x44 :: x45 :: x46 :: x47 :: x48 :: x49 :: x50 :: x51 :: x52 :: x53 :: x54 :: x55 :: x56 :: x57 :: x58 :: x59 :: x60 :: x61 :: x62 :: x63 :: x64 :: x65 :: x66 :: x67 :: [], _ => exact ⟨x0, x1, x2, x3, x4, x5, x6, x7, x8, x9, x10, x11, x12, x13, x14, x15, x16, x17, x18, x19, x20, x21, x22, x23, x24, x25, x26, x27, x28, x29, x30, x31, x32, x33, x34, x35, x36, x37, x38, x39, x40, x41, x42, x43, x44, x45, x46, x47, x48, x49, x50, x51, x52, x53, x54, x55, x56, x57, x58, x59, x60, x61, x62, x63, x64, x65, x66, x67, rfl⟩
def pcr (vk : Value) (vc : Value) (B n : Nat) (xs : List Value) (i : Nat) (v : Value) (_ : Nat → Nat) (w : World) : Prop :=
 match i with
 | 0 => v = vk
 | 1 => v = vc
 | 2 => ∃ A c, v = .slice A n c ∧ w.ownsRow B 3 1 (.slice A n c) n xs
 | _ => True
set_option maxHeartbeats 8000000 in
set_option maxRecDepth 100000 in
theorem castR_any (w0 : World) (vp vl vf : Value) (ps0 : List Int) (pl : List RPl) (hp : RdL cInt 1 w0 vp ps0) (hl : RdPls w0 vl pl) (hp7 : ps0.length ≤ 7) (hl6 : pl.length ≤ 6) (gc gp gk gl gf gr go gF : Nat) : ∀ (ps cast fr ld : List Int) (w : World), Hid (ps0.drop cast.length = ps ∧ cast.length ≤ ps0.length) → Hands pl ld fr → CS w0 w gc gp gk gl gf gr go gF vp (.func (.func 172) #[] #[.pointer (some ⟨go, 0, none⟩), .pointer (some ⟨gF, 0, none⟩)]) vl vf (.func (.func 177) #[] #[.pointer (some ⟨gc, 0, none⟩), .pointer (some ⟨gp, 0, none⟩), .pointer (some ⟨gk, 0, none⟩), .pointer (some ⟨gl, 0, none⟩), .pointer (some ⟨gf, 0, none⟩), .pointer (some ⟨gr, 0, none⟩)]) cast fr false →
  Calls Tryz.prog 177 #[.pointer (some ⟨gc, 0, none⟩), .pointer (some ⟨gp, 0, none⟩), .pointer (some ⟨gk, 0, none⟩), .pointer (some ⟨gl, 0, none⟩), .pointer (some ⟨gf, 0, none⟩), .pointer (some ⟨gr, 0, none⟩)] w fun e w' => e = .returned (.bool (!canS pl ps ld)) ∧ CS w0 w' gc gp gk gl gf gr go gF vp (.func (.func 172) #[] #[.pointer (some ⟨go, 0, none⟩), .pointer (some ⟨gF, 0, none⟩)]) vl vf (.func (.func 177) #[] #[.pointer (some ⟨gc, 0, none⟩), .pointer (some ⟨gp, 0, none⟩), .pointer (some ⟨gk, 0, none⟩), .pointer (some ⟨gl, 0, none⟩), .pointer (some ⟨gf, 0, none⟩), .pointer (some ⟨gr, 0, none⟩)]) cast fr (canS pl ps ld) := by
 intro ps
 obtain ⟨i0, hi0, hz0, hz1, hz2⟩ := info_parts infoInt
 induction ps with
 | nil =>
  intro cast fr ld w hps hhd hC
  have hlen : cast.length = ps0.length := by
   have h1 := congrArg List.length hps.out.1
   have h2 := hps.out.2
   simp at h1
   omega
  have hbe : ((cast.length : Int) == (ps0.length : Int)) = true := by rw [beq_iff_eq]; omega
  have hc7 : cast.length ≤ 7 := by omega
  clear hlen hps
  show Calls Tryz.prog 177 _ w fun e w' => e = .returned (.bool false) ∧ CS w0 w' gc gp gk gl gf gr go gF vp (.func (.func 172) #[] #[.pointer (some ⟨go, 0, none⟩), .pointer (some ⟨gF, 0, none⟩)]) vl vf (.func (.func 177) #[] #[.pointer (some ⟨gc, 0, none⟩), .pointer (some ⟨gp, 0, none⟩), .pointer (some ⟨gk, 0, none⟩), .pointer (some ⟨gl, 0, none⟩), .pointer (some ⟨gf, 0, none⟩), .pointer (some ⟨gr, 0, none⟩)]) cast fr true
  obtain ⟨vc, Lc, Oc, _⟩ := hC.cst
  have hpw := hp.below hC.rest.below
  have Ocr : RdL cInt 1 w vc cast := RdS.of_own Oc
  obtain ⟨Ac, cc, rfl, _, _⟩ := Ocr.form
  obtain ⟨Ap, cp, rfl, _, _⟩ := hpw.form
  have c0 := (Lc 0 _ rfl).1
  have p0 := (hC.rest.bp 0 _ rfl).1
  have k0 := (hC.rest.bk 0 _ rfl).1
  go_enter Tryz.func177, Tryz.ntmps177
  go_upto_region 2 with (fail)
  refine region_made (n := 68) 3 (by kernel_rfl) rfl (by kernel_rfl) (fun w' => Below w.heap.size w w') (fun _ => 0) (pcr (.func (.func 172) #[] #[.pointer (some ⟨go, 0, none⟩), .pointer (some ⟨gF, 0, none⟩)]) (.slice Ac cast.length cc) w.heap.size cast.length (cast.flatMap cInt)) (Below.refl _ _).drew ?_ ?_ ?_
  ·intro i v gh gh' w1 w2 hp hJ hb' hg
   match i, hp with
   | 0, hp => exact hp
   | 1, hp => exact hp
   | 2, ⟨A', c', hv, ho⟩ => exact ⟨A', c', hv, own_below ho hb'⟩
   | _ + 3, _ => trivial
  ·refine ⟨?_, ?_, ?_, trivial⟩
   all_goals
    intro a gh w5 hag hJ hd
    have ag0 : a.tmps.getD 0 undef = .pointer (some ⟨gc, 0, none⟩) := hag.kept 0 (by kernel_rfl)
    have ag2 : a.tmps.getD 2 undef = .pointer (some ⟨gk, 0, none⟩) := hag.kept 2 (by kernel_rfl)
    clear hag
   ·have k1 := carry hJ k0
    go_wp2_with fail
    exact ⟨rfl, _, rfl, rfl, hJ, Below.refl _ _⟩
   ·have c1 := carry hJ c0
    go_wp2_with fail
    exact ⟨rfl, _, rfl, rfl, hJ, Below.refl _ _⟩
   ·have e1 : a.tmps.getD 16 undef = .slice Ac cast.length cc := hd 1 (by kernel_rfl) _ rfl
    go_wp2_with fail
    refine (copyOf_any _ cast w5 (Ocr.below hJ) (by omega)).mono ?_
    rintro e w6 ⟨v5, rfl, own5, hb5⟩
    obtain ⟨A5, c5, rfl, _, _⟩ := (RdS.of_own own5).form
    go_wp2_with fail
    exact ⟨rfl, _, rfl, ⟨A5, c5, rfl, own_mono own5 hJ.size⟩, bl_trans hJ hb5, hb5⟩
  ·intro a gh w5 hag hJ hd
   obtain ⟨x0, x1, x2, x3, x4, x5, x6, x7, x8, x9, x10, x11, x12, x13, x14, x15, x16, x17, x18, x19, x20, x21, x22, x23, x24, x25, x26, x27, x28, x29, x30, x31, x32, x33, x34, x35, x36, x37, x38, x39, x40, x41, x42, x43, x44, x45, x46, x47, x48, x49, x50, x51, x52, x53, x54, x55, x56, x57, x58, x59, x60, x61, x62, x63, x64, x65, x66, x67, rfl⟩ := act68cr hag.size hag.defers
   have ag0 : x0 = .pointer (some ⟨gc, 0, none⟩) := hag.kept 0 (by kernel_rfl)
   have ag1 : x1 = .pointer (some ⟨gp, 0, none⟩) := hag.kept 1 (by kernel_rfl)
   have ag2 : x2 = .pointer (some ⟨gk, 0, none⟩) := hag.kept 2 (by kernel_rfl)
   have ag3 : x3 = .pointer (some ⟨gl, 0, none⟩) := hag.kept 3 (by kernel_rfl)
   have ag4 : x4 = .pointer (some ⟨gf, 0, none⟩) := hag.kept 4 (by kernel_rfl)
   have ag5 : x5 = .pointer (some ⟨gr, 0, none⟩) := hag.kept 5 (by kernel_rfl)
   have ag7 : x7 = undef := hag.kept 7 (by kernel_rfl)
   have ag8 : x8 = undef := hag.kept 8 (by kernel_rfl)
   have ag9 : x9 = undef := hag.kept 9 (by kernel_rfl)
   clear hag
   subst ag0 ag1 ag2 ag3 ag4 ag5 ag7 ag8 ag9
   have e1 : x15 = .func (.func 172) #[] #[.pointer (some ⟨go, 0, none⟩), .pointer (some ⟨gF, 0, none⟩)] := hd 0 (by kernel_rfl) _ rfl
   obtain ⟨A5, c5, e2, own5⟩ : ∃ A c, x17 = .slice A cast.length c ∧ w5.ownsRow w.heap.size 3 1 (.slice A cast.length c) cast.length (cast.flatMap cInt) := hd 2 (by kernel_rfl) _ rfl
   subst e1 e2
   change wpList _ _ _ [_, _] _ _
   have hC5 := hC.keep hJ
   clear hC hJ hd c0 p0 k0
   go_wp2_with fail
   refine (castF_any _ _ _ hC5).mono ?_
   rintro e w6 ⟨rfl, hC6⟩
   go_wp2_with fail
   go_ret
   exact ⟨rfl, hC6⟩
 | cons x ps ih =>
  intro cast fr ld w hps hhd hC
  have hcp : cast.length < ps0.length := by
   have h1 := congrArg List.length hps.out.1
   simp at h1
   omega
  have hdr := hps.out.1
  rw [List.drop_eq_getElem_cons hcp] at hdr
  injection hdr with hdr1 hdr2
  have hpx : ∀ h : cast.length < ps0.length, ps0[cast.length] = x := fun _ => hdr1
  have Hps2 := Lib.hid hdr2
  clear hdr1 hdr2
  have hHD := Lib.hid hhd
  obtain ⟨vc, Lc, Oc, _⟩ := hC.cst
  have hpw := hp.below hC.rest.below
  obtain ⟨Ac, cc, rfl, _, _⟩ := (RdS.of_own Oc).form
  obtain ⟨Ap, cp, rfl, _, _⟩ := hpw.form
  obtain ⟨Al, cl, rfl, _, _⟩ := hl.form
  have c0 := (Lc 0 _ rfl).1
  have p0 := (hC.rest.bp 0 _ rfl).1
  have l0 := (hC.rest.bl 0 _ rfl).1
  have hne : ((cast.length : Int) == (ps0.length : Int)) = false := by rw [beq_eq_false_iff_ne]; omega
  have Hpx := Lib.hid hpx
  have HI := Lib.hid ih
  clear ih Lc Oc hpw hps hpx
  go_enter Tryz.func177, Tryz.ntmps177
  go_wp2_with fail
  go_loopw [7, 8, 9, 21] (fun _ _ _ i wr => ∃ k : Nat, k ≤ pl.length ∧ i = .int .i64 k ∧ Hid (TriedF pl x ps ld k) ∧ CS w0 wr gc gp gk gl gf gr go gF (.slice Ap ps0.length cp) (.func (.func 172) #[] #[.pointer (some ⟨go, 0, none⟩), .pointer (some ⟨gF, 0, none⟩)]) (.slice Al pl.length cl) vf (.func (.func 177) #[] #[.pointer (some ⟨gc, 0, none⟩), .pointer (some ⟨gp, 0, none⟩), .pointer (some ⟨gk, 0, none⟩), .pointer (some ⟨gl, 0, none⟩), .pointer (some ⟨gf, 0, none⟩), .pointer (some ⟨gr, 0, none⟩)]) cast fr false) (fun _ _ _ i _ => pl.length - (intOf i).toNat)
  case atStart => exact ⟨0, Nat.zero_le _, rfl, TriedF.zero _ _ _ _, hC⟩
  case round =>
   obtain ⟨k, hk, rfl, htr, hCr⟩ := hrel
   clear hC c0 p0 l0
   by_cases hlt : k < pl.length
   ·have hlr := hl.below hCr.rest.below
    obtain ⟨g, off, u, rfl, hg, k0, k1, hru⟩ := hlr.cell hlt
    have hkf : k < fr.length := by have := hHD.out.l2; omega
    have HCN := Lib.hid (hHD.out.can hlt hkf x)
    have HKN := Lib.hid (knows_ix pl[k] x)
    obtain ⟨Au, cu, rfl, _, _⟩ := hru.form
    generalize hqk : pl[k] = q at *
    obtain ⟨r, f⟩ := q
    simp only at k0 k1 hru HKN
    go_upto_region 6 with (fail)
    have hal : Below wr.heap.size wr (wr.alloc (.cells #[.slice Au r.length cu, .int .i64 f] 105)) := (Below.refl _ _).alloc (Nat.le_refl _) _
    have Lq : Loc (wr.alloc (.cells #[.slice Au r.length cu, .int .i64 f] 105)) wr.heap.size [.slice Au r.length cu, .int .i64 f] := Loc.new wr #[.slice Au r.length cu, .int .i64 f] 105
    obtain ⟨gq, hgq⟩ : ∃ g, wr.heap.size = g := ⟨_, rfl⟩
    rw [hgq] at Lq
    have hC1 := hCr.keep hal
    have hru1 := hru.below hal
    clear k0 k1 hlr hCr hru
    generalize (wr.alloc (.cells #[.slice Au r.length cu, .int .i64 f] 105)) = W1 at *
    rw [hgq]
    clear hal hgq hg
    obtain ⟨vc1, Lc1, Oc1, _⟩ := hC1.cst
    obtain ⟨Ac1, cc1, rfl, _, _⟩ := (RdS.of_own Oc1).form
    obtain ⟨gv, cv, hvf, v0, vf0, HST⟩ := hC1.free_at hkf
    subst hvf
    have hpw := hp.below hC1.rest.below
    obtain ⟨gx, ox, rfl, hgx, hcx⟩ := hpw.cell (k := cast.length) cInt_len (by omega) hcp
    have x0 := hcx 0 _ rfl
    simp only [Nat.add_zero, Nat.mul_one] at x0
    rw [Hpx.out hcp] at x0
    clear hcx
    have b0 := (Lc1 0 _ rfl).1
    have b1 := (hC1.rest.bp 0 _ rfl).1
    have b2 := (hC1.rest.bl 0 _ rfl).1
    have b3 := (hC1.rest.bf 0 _ rfl).1
    have b5 := (Lq 0 _ rfl).1
    have b6 := (Lq 1 _ rfl).1
    have hix := idxF_le (l := r) (n := x)
    have HX : Hid (∀ n : Nat, Calls Tryz.prog 134 #[.slice Au r.length cu, .int .i64 x] (W1.drewN n) fun e w'' => e = .returned (.int .i64 (idxF r x)) ∧ ∃ m, w'' = W1.drewN m) := fun n => quietL1 (indexOf_any _ r x (W1.drewN n) hru1)
    obtain ⟨fk, hfk⟩ : ∃ fk, fr[k] = fk := ⟨_, rfl⟩
    have HAT := Lib.hid (fun h1 => hHD.out.at_ k hlt h1 hkf)
    rw [hfk] at v0 HCN HAT
    have HFK := Lib.hid hfk
    have hfb : 0 ≤ fk ∧ fk ≤ 2 := by have := HAT.out (by have := hHD.out.l1; omega); omega
    clear hfk Lq hru1 HST hqk
    generalize idxF r x = ix at *
    have hcl : ((cast.length : Nat) : Int) < ((ps0.length : Nat) : Int) := by omega
    by_cases hz : fk = 0
    ·have hzf : (fk == 0) = true := by rw [beq_iff_eq]; exact hz
     have HN := Lib.hid (htr.out.no (show canAt pl x ld k = false by rw [HCN.out, hz]; rfl))
     clear hz
     go_wp2_with fail
     go_quiet (fail)
     rename_i nq
     have hC2 := hC1.drewN nq
     clear b0 b1 b2 b3 b5 b6 v0 vf0 x0
     generalize W1.drewN nq = W2 at *
     go_wp2_with fail
     go_roundw
     case rel => exact ⟨k + 1, by omega, by go_num, HN.out, hC2⟩
     case measure => simp [intOf]; omega
    ·have hzf : (fk == 0) = false := by rw [beq_eq_false_iff_ne]; exact hz
     have Hz := Lib.hid hz
     clear hz
     by_cases hi : ix < 0
     ·have hi1 : decide (ix < 0) = true := decide_eq_true hi
      have HN := Lib.hid (htr.out.no (show canAt pl x ld k = false by rw [HCN.out, Bool.eq_false_iff.2 (fun e => absurd (HKN.out.1 e) (by omega)), Bool.and_false]))
      go_wp2_with fail
      go_quiet ((go_at_call 134; exact HX.out _))
      rename_i nq
      have hC2 := hC1.drewN nq
      clear b0 b1 b2 b3 b5 b6 v0 vf0 x0
      generalize W1.drewN nq = W2 at *
      go_wp2_with fail
      go_roundw
      case rel => exact ⟨k + 1, by omega, by go_num, HN.out, hC2⟩
      case measure => simp [intOf]; omega
     ·have hi1 : decide (ix < 0) = false := decide_eq_false hi
      have HCT := Lib.hid (show canAt pl x ld k = true by rw [HCN.out, HKN.out.2 (by omega), decide_eq_true Hz.out]; rfl)
      have HLS : Hid (Hands pl (bump ld k) (fr.set k (fk - 1))) := by have := hHD.out.less hkf (by rw [HFK.out]; exact Hz.out); rw [HFK.out] at this; exact this
      clear hix
      go_wp2_with fail
      go_quiet ((go_at_call 134; exact HX.out _))
      rename_i nq
      have hC2 := hC1.drewN nq
      clear b0 b1 b2 b3 b5 b6 v0 vf0 x0 HX Lc1 Oc1 hpw hC1
      generalize W1.drewN nq = W2 at *
      -- a hand is taken
      obtain ⟨gv', cv', e, v0, vf0, HST⟩ := hC2.free_at hkf
      injection e with e1 e2 e3
      injection e1 with e1
      injection e1 with e1
      subst e1 e3
      clear e2
      rw [HFK.out] at v0
      have b3 := (hC2.rest.bf 0 _ rfl).1
      have hw1 : IntKind.i64.wrap (fk - 1) = fk - 1 := IntWalk.i64_in _ (by omega)
      go_upto_region 8 with (fail)
      have hC3 := HST (fk - 1)
      clear HST v0 vf0 b3 hC2 hw1
      generalize W2.setCell ⟨gv, k, none⟩ (.int .i64 (fk - 1)) = W3 at *
      -- the cast grows
      obtain ⟨vc3, Lc3, Oc3, Ap3⟩ := hC3.cst
      obtain ⟨Ac3, cc3, rfl, _, _⟩ := (RdS.of_own Oc3).form
      have b0 := (Lc3 0 _ rfl).1
      have hal : Below W3.heap.size W3 (W3.alloc (.cells #[.int .i64 k] 3)) := (Below.refl _ _).alloc (Nat.le_refl _) _
      have hC4 := hC3.keep hal
      have hZ4 := hC4.rest.below.size
      have Lc4 := Lc3.below hal
      have Oc4 := own_below Oc3 hal
      go_wp2_with (at_builtin; refine wpList_appendB _ rfl (.tmp 48) (.tmp 50) _ rfl w0.heap.size 3 i0 _ 1 8 Tryz.underlying26 hi0 hz0 hz1 hz2 rfl (by omega) _ cast.length (cast.flatMap cInt) rfl Oc4 _ 1 [.int .i64 k] rfl (rdS_new W3 #[.int .i64 k] _ 1 1 rfl (by simp [maxLen])) (by simp [Value.oneCell']) (by simp [maxLen]; omega) (by omega) hZ4 ?_; intro v5 w5 own5 gr5 at5; obtain ⟨HG5, Lc5⟩ := hC4.rest.grown Lc4 Oc4 Ap3 gr5 at5; have b5 := (Lc5 0 _ rfl).1; have f5 := (Lc5 0 _ rfl).2; obtain ⟨A5, c5, rfl, _, _⟩ := (RdS.of_own own5).form; have hC5 := HG5 (cast ++ [(k : Int)]) (by rw [List.length_append, List.flatMap_append]; exact own5); have b4 := (hC5.rest.br 0 _ rfl).1)
      clear HG5 gr5 at5 Lc5 Oc4 Lc4 hC4 hC3 hal b0 Lc3 Oc3 Ap3 own5
      clear b5 f5
      generalize w5.setCell ⟨gc, 0, none⟩ (.slice A5 (cast.length + 1) c5) = W6 at *
      have hI := HI.out (cast ++ [(k : Int)]) (fr.set k (fk - 1)) (bump ld k) W6 (show Hid (_ ∧ _) from ⟨by rw [List.length_append]; exact Hps2.out, by simp; omega⟩) HLS.out hC5
      obtain ⟨cb, hcb⟩ : ∃ cb, canS pl ps (bump ld k) = cb := ⟨_, rfl⟩
      rw [hcb] at hI
      have HCB := Lib.hid hcb
      clear hcb hC5
      refine hI.mono ?_
      rintro e W7 ⟨rfl, hC7⟩
      clear hI b4
      -- the cast's last is taken away
      obtain ⟨g7, c7, L7, hle7, hC8⟩ := hC7.pop
      have b7 := (L7 0 _ rfl).1
      have f7 := (L7 0 _ rfl).2
      obtain ⟨n7, hn7⟩ : ∃ n, cast.length + 1 = n := ⟨_, rfl⟩
      rw [hn7] at b7 hle7
      have hw1 : IntKind.i64.wrap ((n7 : Int) - 1) = (n7 : Int) - 1 := IntWalk.i64_in _ (by omega)
      have hw2 : (0 : Int) ≤ (n7 : Int) - 1 := by omega
      have hw3 : ((n7 : Int) - 1).toNat = cast.length := by omega
      have hw4 : ¬ (n7 : Int) - 1 < 0 := by omega
      have hw5 : (n7 : Int) - 1 ≤ (c7 : Int) := by omega
      have hw6 : (1 : Int) ≤ (n7 : Int) := by omega
      go_upto_region 11 with (fail)
      clear hw1 hw2 hw3 hw4 hw5 hw6 b7 f7 L7 hC7
      generalize W7.setCell ⟨gc, 0, none⟩ (.slice (some ⟨g7, 0, none⟩) cast.length c7) = W8 at *
      clear hn7 hle7
      -- the hand is free again
      obtain ⟨gv2, cv2, e, v0, vf0, HST⟩ := hC8.free_at (k := k) (by simp; omega)
      injection e with e1 e2 e3
      injection e1 with e1
      injection e1 with e1
      subst e1 e3
      clear e2
      rw [List.getElem_set_self] at v0
      have b3 := (hC8.rest.bf 0 _ rfl).1
      have hC9 := HST fk
      have hsb := set_back hkf (fk - 1)
      rw [HFK.out] at hsb
      rw [hsb] at hC9
      obtain ⟨f1, hf1⟩ : ∃ f1, fk - 1 = f1 := ⟨_, rfl⟩
      have hw1 : IntKind.i64.wrap (f1 + 1) = fk := by rw [IntWalk.i64_in _ (by omega)]; omega
      rw [hf1] at v0
      clear HST hC8 hsb hf1
      go_upto_region 12 with (fail)
      clear v0 vf0 b3 hw1
      generalize W8.setCell ⟨gv, k, none⟩ (.int .i64 fk) = W9 at *
      cases cb
      ·have HN := Lib.hid (htr.out.sub HCB.out)
       go_wp2_with fail
       go_roundw
       case rel => exact ⟨k + 1, by omega, by go_num, HN.out, hC9⟩
       case measure => simp [intOf]; omega
      ·have HY := Lib.hid (canS_t hlt HCT.out HCB.out)
       go_wp2_with fail
       go_ret
       exact ⟨by rw [HY.out]; rfl, by rw [HY.out]; exact hC9⟩
   ·obtain rfl : k = pl.length := by omega
    have HE := Lib.hid htr.out.end_
    have l0 := (hCr.rest.bl 0 _ rfl).1
    go_wp2_with fail
    go_ret
    exact ⟨by rw [HE.out]; rfl, by rw [HE.out]; exact hCr⟩
end Go.Proofs.YtlhdeojkpmpecaaGreat
