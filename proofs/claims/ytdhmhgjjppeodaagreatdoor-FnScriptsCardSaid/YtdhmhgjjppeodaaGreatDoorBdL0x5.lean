/- Several texts in one: The state of the search for castings: boxes, the cast so far, the hands that are free. Plain words beside. Castings of the program: the closure that is called with a casting, the search, FirstCasting. Written by a program (gen_l1.py). Castings of the program: castings, FirstCasting, canPlay. Written by a program (gen_l1.py). Castings of the reference: the search, FirstCasting, l17Can. Written by a program (gen_l1.py). Castings of the reference: FirstCasting, l17Can. Written by a program (gen_l1.py). -/
import Derived.Deep.DeepCutAuto
import Derived.Deep.QuietTactic
import Derived.BigQuiet
import Derived.IntWalk
import Derived.Test.YtdhmhgjjppeodaaGreatDoorBdK7x16
import Derived.Test.YtdhmhgjjppeodaaGreatDoorBdK3x9
import Derived.Test.YtdhmhgjjppeodaaGreatDoorKC
import Derived.Test.YtdhmhgjjppeodaaGreatDoorBdM7x3
import Derived.Test.YtdhmhgjjppeodaaGreatDoorBdM5x6
import Derived.Test.YtdhmhgjjppeodaaGreatDoorBdW1x3
namespace Go.Proofs.YtdhmhgjjppeodaaGreatDoor
open Go.RowKit
theorem knows_ix (p : RPl) (x : Int) : knowsB p x = true ↔ 0 ≤ idxF p.1 x := by
 unfold knowsB
 rw [List.any_eq_true]
 constructor
 ·rintro ⟨y, hy, e⟩
  have := of_decide_eq_true e
  subst this
  rw [idxF_mem hy]; omega
 ·intro h
  apply Classical.byContradiction
  intro hno
  have : idxF p.1 x = -1 := idxF_none (List.all_eq_true.2 (fun y hy => neB_t (fun e => hno ⟨y, hy, decide_eq_true e⟩)))
  omega
theorem playersB_fr {pl : List RPl} (h : playersB pl = true) : ∀ r ∈ pl, 0 ≤ r.2 ∧ r.2 ≤ 2 := fun r hr => by
 rw [playersB, Bool.and_eq_true] at h
 have := List.all_eq_true.1 h.1 r hr
 rw [playerB, Bool.and_eq_true] at this
 exact inB_iff.1 this.2
def RetCast (b : Bool) (w : World) (e : Ending) (w' : World) : Prop := ∃ vo, e = .returned (.tuple #[vo, .bool b]) ∧ Below w.heap.size w w'
structure Hands (pl : List RPl) (ld fr : List Int) : Prop where
 l1 : ld.length = pl.length
 l2 : fr.length = pl.length
 at_ : ∀ p (h : p < pl.length) (h1 : p < ld.length) (h2 : p < fr.length), fr[p] = pl[p].2 - ld[p] ∧ 0 ≤ fr[p] ∧ 0 ≤ ld[p] ∧ pl[p].2 ≤ 2
theorem Hands.start {pl : List RPl} (h : ∀ r ∈ pl, 0 ≤ r.2 ∧ r.2 ≤ 2) : Hands pl (zeroL pl.length) (pl.map (·.2)) := by
 refine ⟨by simp [zeroL], by simp, fun p h0 h1 h2 => ?_⟩
 have := h _ (List.getElem_mem h0)
 simp [zeroL]
 omega
theorem Hands.can {pl : List RPl} {ld fr : List Int} (h : Hands pl ld fr) {k : Nat} (hk : k < pl.length) (hf : k < fr.length) (x : Int) : canAt pl x ld k = (decide (fr[k] ≠ 0) && knowsB pl[k] x) := by
 have h1 := h.l1
 have := h.at_ k hk (by omega) hf
 rw [canAt_eq hk (by omega)]
 congr 1
 simp only [decide_eq_decide]
 omega
theorem Hands.less {pl : List RPl} {ld fr : List Int} (h : Hands pl ld fr) {k : Nat} (hf : k < fr.length) (h0 : fr[k] ≠ 0) : Hands pl (bump ld k) (fr.set k (fr[k] - 1)) := by
 have h1 := h.l1
 have h2 := h.l2
 have hb := bump_eq (ld := ld) (p := k) (by omega)
 refine ⟨by rw [bump_len]; exact h1, by simpa using h2, fun p hp h3 h4 => ?_⟩
 have hp' := h.at_ p hp (by omega) (by omega)
 rw [List.getElem_set]
 have e : (bump ld k)[p] = if k = p then ld[k]'(by omega) + 1 else ld[p]'(by omega) := by simp only [hb, List.getElem_set]
 rw [e]
 by_cases hkp : k = p
 ·subst hkp; rw [if_pos rfl, if_pos rfl]; omega
 ·rw [if_neg hkp, if_neg hkp]; exact hp'
theorem set_back {fr : List Int} {k : Nat} (hk : k < fr.length) (x : Int) : (fr.set k x).set k fr[k] = fr := by rw [List.set_set, List.set_getElem_self]
theorem row_len0 (l : List Int) : (l.flatMap cInt).length = l.length * 1 := by rw [Nat.mul_one]; exact row_len' l
 where row_len' : ∀ l : List Int, (l.flatMap cInt).length = l.length
 | [] => rfl
 | a :: l => by rw [List.flatMap_cons, List.length_append, row_len' l, List.length_cons]; show 1 + l.length = _; omega
abbrev BX (gc gp gk gl gf gr go gF : Nat) : List Nat := [gc, gp, gk, gl, gf, gr, go, gF]
structure CS0 (w0 w : World) (gc gp gk gl gf gr go gF : Nat) (vp vk vl vf vr : Value) (fr : List Int) (fd : Bool) : Prop where
 base : ∀ b ∈ BX gc gp gk gl gf gr go gF, w0.heap.size ≤ b
 nd : (BX gc gp gk gl gf gr go gF).Nodup
 below : Below w0.heap.size w0 w
 bp : Loc w gp [vp]
 bk : Loc w gk [vk]
 bl : Loc w gl [vl]
 bf : Loc w gf [vf]
 br : Loc w gr [vr]
 bo : ∃ vo, Loc w go [vo]
 bF : Loc w gF [.bool fd]
 free : w.ownsRow w0.heap.size 3 1 vf fr.length (fr.flatMap cInt)
 apf : ∀ b ∈ vf.ownBlock.toList, b ∉ BX gc gp gk gl gf gr go gF
structure CS (w0 w : World) (gc gp gk gl gf gr go gF : Nat) (vp vk vl vf vr : Value) (cast fr : List Int) (fd : Bool) : Prop where
 rest : CS0 w0 w gc gp gk gl gf gr go gF vp vk vl vf vr fr fd
 cst : ∃ vc, Loc w gc [vc] ∧ w.ownsRow w0.heap.size 3 1 vc cast.length (cast.flatMap cInt) ∧ ∀ b ∈ vc.ownBlock.toList, b ∉ BX gc gp gk gl gf gr go gF ++ vf.ownBlock.toList
theorem loc_lt {w : World} {b : Nat} {v : Value} (h : Loc w b [v]) : b < w.heap.size := World.block_lt_of_cell? w _ (h 0 v rfl).1
section
variable {w0 w w' : World} {gc gp gk gl gf gr go gF : Nat} {vp vk vl vf vr : Value} {cast fr : List Int} {fd : Bool}
theorem CS0.chg (h : CS0 w0 w gc gp gk gl gf gr go gF vp vk vl vf vr fr fd) {S : List Nat} (hc : Chg S w w') (hS : ∀ b ∈ S, w0.heap.size ≤ b) (hn : ∀ b ∈ [gp, gk, gl, gf, gr, go, gF], b ∉ S) (hf : ∀ b ∈ vf.ownBlock.toList, b ∉ S) : CS0 w0 w' gc gp gk gl gf gr go gF vp vk vl vf vr fr fd := by
 obtain ⟨vo, h4⟩ := h.bo
 exact ⟨h.base, h.nd, Below.chg h.below hc h.below.size hS, h.bp.chg hc (hn _ (by simp)), h.bk.chg hc (hn _ (by simp)), h.bl.chg hc (hn _ (by simp)), h.bf.chg hc (hn _ (by simp)), h.br.chg hc (hn _ (by simp)), ⟨vo, h4.chg hc (hn _ (by simp))⟩, h.bF.chg hc (hn _ (by simp)), own_chg h.free hc hf, h.apf⟩
theorem CS.keep (h : CS w0 w gc gp gk gl gf gr go gF vp vk vl vf vr cast fr fd) (hb : Below w.heap.size w w') : CS w0 w' gc gp gk gl gf gr go gF vp vk vl vf vr cast fr fd := by
 obtain ⟨vc, h1, h2, h3⟩ := h.cst
 exact ⟨h.rest.chg (Chg.of_below hb []) (by simp) (by simp) (by simp), vc, h1.below hb, own_below h2 hb, h3⟩
theorem CS.drewN (h : CS w0 w gc gp gk gl gf gr go gF vp vk vl vf vr cast fr fd) (n : Nat) : CS w0 (w.drewN n) gc gp gk gl gf gr go gF vp vk vl vf vr cast fr fd := by
 obtain ⟨vc, h1, h2, h3⟩ := h.cst
 let c0 := Chg.refl [] w
 exact ⟨h.rest.chg (S := []) (w' := w.drewN n) ⟨c0.os, c0.tape, c0.output, c0.size, c0.block⟩ (by simp) (by simp) (by simp), vc, h1.drewN n, h2, h3⟩
theorem CS.free_at (h : CS w0 w gc gp gk gl gf gr go gF vp vk vl vf vr cast fr fd) {k : Nat} (hk : k < fr.length) :
  ∃ g c, vf = .slice (some ⟨g, 0, none⟩) fr.length c ∧ w.cell? ⟨g, k, none⟩ = some (.int .i64 fr[k]) ∧ w.frozen? ⟨g, k, none⟩ = false ∧ ∀ x, CS w0 (w.setCell ⟨g, k, none⟩ (.int .i64 x)) gc gp gk gl gf gr go gF vp vk vl vf vr cast (fr.set k x) fd := by
 obtain ⟨h, vc, h1, h2, h3⟩ := h
 have hf := h.free
 obtain ⟨g, c, rfl⟩ := own_form hf (by omega)
 obtain ⟨vo, h4⟩ := h.bo
 have hg : g ∉ BX gc gp gk gl gf gr go gF := h.apf g (by simp [Value.ownBlock])
 refine ⟨g, c, rfl, row_cell hf hk, hf.frozenAt k, fun x => ?_⟩
 have hch : Chg [g] w (w.setCell ⟨g, k, none⟩ (.int .i64 x)) := chg_set (Chg.refl _ _) (by simp)
 have hn : ∀ b ∈ BX gc gp gk gl gf gr go gF, b ∉ [g] := fun b hb hb' => by simp at hb'; subst hb'; exact hg hb
 refine ⟨⟨h.base, h.nd, h.below.setCell (own_lt hf g (by simp [Value.ownBlock])).1 _,
  h.bp.chg hch (hn _ (by simp)), h.bk.chg hch (hn _ (by simp)), h.bl.chg hch (hn _ (by simp)), h.bf.chg hch (hn _ (by simp)), h.br.chg hch (hn _ (by simp)), ⟨vo, h4.chg hch (hn _ (by simp))⟩, h.bF.chg hch (hn _ (by simp)), ?_, h.apf⟩,
  vc, h1.chg hch (hn _ (by simp)), own_chg h2 hch (fun b hb hb' => h3 b hb (by simp at hb'; subst hb'; simp [Value.ownBlock])), h3⟩
 have := row_stored hf k x
 rw [List.length_set]; exact this
theorem CS0.put {vc vc' : Value} {cast' : List Int} (h : CS0 w0 w gc gp gk gl gf gr go gF vp vk vl vf vr fr fd) (h1 : Loc w gc [vc]) (hown : w.ownsRow w0.heap.size 3 1 vc' cast'.length (cast'.flatMap cInt)) (hap : ∀ b ∈ vc'.ownBlock.toList, b ∉ BX gc gp gk gl gf gr go gF ++ vf.ownBlock.toList) :
  CS w0 (w.setCell ⟨gc, 0, none⟩ vc') gc gp gk gl gf gr go gF vp vk vl vf vr cast' fr fd := by
 have hch : Chg [gc] w (w.setCell ⟨gc, 0, none⟩ vc') := chg_set (Chg.refl _ _) (by simp)
 have hn : ∀ b ∈ [gp, gk, gl, gf, gr, go, gF], b ∉ [gc] := fun b hb hb' => by
  have := h.nd
  rw [List.nodup_cons] at this
  simp at hb'
  subst hb'
  exact this.1 hb
 exact ⟨h.chg hch (fun b hb => by simp at hb; subst hb; exact h.base b (by simp)) hn (fun b hb hb' => h.apf b hb (by simp at hb'; subst hb'; simp)),
  vc', h1.set (i := 0) (v := vc) rfl, own_chg hown hch (fun b hb hb' => hap b hb (by simp at hb'; subst hb'; simp)), hap⟩
theorem CS0.grown {vc : Value} {n : Nat} {xs : List Value} (h : CS0 w0 w gc gp gk gl gf gr go gF vp vk vl vf vr fr fd) (hL : Loc w gc [vc]) (ho : w.ownsRow w0.heap.size 3 1 vc n xs) (hap : ∀ b ∈ vc.ownBlock.toList, b ∉ BX gc gp gk gl gf gr go gF ++ vf.ownBlock.toList) (hg : w.grownBy w' vc.ownBlock) {v' : Value}
  (hat : v'.ownBlock = vc.ownBlock ∨ v'.ownBlock = some w.heap.size) :
  (∀ c', w'.ownsRow w0.heap.size 3 1 v' c'.length (List.flatMap cInt c') → CS w0 (w'.setCell ⟨gc, 0, none⟩ v') gc gp gk gl gf gr go gF vp vk vl vf vr c' fr fd) ∧ Loc w' gc [vc] := by
 have hch := Chg.of_grown hg
 have hn : ∀ b ∈ BX gc gp gk gl gf gr go gF, b ∉ vc.ownBlock.toList := fun b hb hb' => hap b hb' (List.mem_append_left _ hb)
 have hF : ∀ b ∈ vf.ownBlock.toList, b ∉ vc.ownBlock.toList := fun b hb hb' => hap b hb' (List.mem_append_right _ hb)
 obtain ⟨vo, h4⟩ := h.bo
 have hap' : ∀ b ∈ v'.ownBlock.toList, b ∉ BX gc gp gk gl gf gr go gF ++ vf.ownBlock.toList := fun b hb hb' => by
  rcases hat with e | e
  ·rw [e] at hb; exact hap b hb hb'
  ·rw [e] at hb
   have e2 : b = w.heap.size := by simpa using hb
   subst e2
   have hlt : w.heap.size < w.heap.size := by
    rcases List.mem_append.1 hb' with h5 | h5
    ·simp only [List.mem_cons, List.not_mem_nil, or_false] at h5
     rcases h5 with e | e | e | e | e | e | e | e
     ·have := loc_lt hL; omega
     ·have := loc_lt h.bp; omega
     ·have := loc_lt h.bk; omega
     ·have := loc_lt h.bl; omega
     ·have := loc_lt h.bf; omega
     ·have := loc_lt h.br; omega
     ·have := loc_lt h4; omega
     ·have := loc_lt h.bF; omega
    ·exact (own_lt h.free _ h5).2
   omega
 have hL' := hL.chg hch (hn _ (by simp))
 exact ⟨fun c' hc' => CS0.put (h.chg hch (fun b hb => (own_lt ho b hb).1) (fun b hb => hn b (List.mem_cons_of_mem _ hb)) hF) hL' hc' hap', hL'⟩
theorem CS.pop {k : Int} (h : CS w0 w gc gp gk gl gf gr go gF vp vk vl vf vr (cast ++ [k]) fr fd) : ∃ g c, Loc w gc [.slice (some ⟨g, 0, none⟩) (cast.length + 1) c] ∧ cast.length + 1 ≤ c ∧ CS w0 (w.setCell ⟨gc, 0, none⟩ (.slice (some ⟨g, 0, none⟩) cast.length c)) gc gp gk gl gf gr go gF vp vk vl vf vr cast fr fd := by
 obtain ⟨h, vc, h1, h2, h3⟩ := h
 have hl : (cast ++ [k]).length = cast.length + 1 := by simp
 rw [hl] at h2
 obtain ⟨g, c, rfl⟩ := own_form h2 (by omega)
 obtain ⟨A', c', e, hle, _⟩ := (RdS.of_own h2).form
 injection e with _ _ e3
 subst e3
 refine ⟨g, c, h1, hle, h.put h1 ?_ h3⟩
 have := own_prefix h2 (m := cast.length) (by omega) (by omega)
 rw [List.flatMap_append, show cast.length * 1 = (cast.flatMap cInt).length from (row_len0 cast).symm, List.take_left'] at this
 ·exact this
 ·rfl
theorem CS.found {v : Value} (h : CS w0 w gc gp gk gl gf gr go gF vp vk vl vf vr cast fr fd) : CS w0 ((w.setCell ⟨go, 0, none⟩ v).setCell ⟨gF, 0, none⟩ (.bool true)) gc gp gk gl gf gr go gF vp vk vl vf vr cast fr true := by
 obtain ⟨h, vc, h1, h2, h3⟩ := h
 obtain ⟨vo, h4⟩ := h.bo
 have hch : Chg [go, gF] w ((w.setCell ⟨go, 0, none⟩ v).setCell ⟨gF, 0, none⟩ (.bool true)) := chg_set (chg_set (Chg.refl _ _) (by simp)) (by simp)
 have hnd := h.nd
 simp only [BX, List.nodup_cons, List.mem_cons, List.not_mem_nil, or_false, not_or] at hnd
 obtain ⟨n1, n2, n3, n4, n5, n6, n7, _⟩ := hnd
 have hL : Loc ((w.setCell ⟨go, 0, none⟩ v).setCell ⟨gF, 0, none⟩ (.bool true)) go [v] := (h4.set (i := 0) (v := vo) (u := v) rfl).far n7
 have hL2 : Loc ((w.setCell ⟨go, 0, none⟩ v).setCell ⟨gF, 0, none⟩ (.bool true)) gF [.bool true] := (h.bF.far (g := go) (i := 0) (u := v) (fun e => n7 e.symm)).set (i := 0) (v := .bool fd) rfl
 have nm : ∀ b, b ≠ go → b ≠ gF → b ∉ [go, gF] := fun b h1 h2 hb => by
  rcases List.mem_cons.1 hb with e | e
  ·exact h1 e
  ·exact h2 (List.mem_singleton.1 e)
 have hsub : ∀ b ∈ [go, gF], b ∈ BX gc gp gk gl gf gr go gF := fun b hb => by
  rcases List.mem_cons.1 hb with e | e
  ·subst e; simp
  ·rw [List.mem_singleton.1 e]; simp
 exact ⟨⟨h.base, h.nd, Below.chg h.below hch h.below.size (fun b hb => h.base b (hsub b hb)), h.bp.chg hch (nm _ n2.2.2.2.2.1 n2.2.2.2.2.2), h.bk.chg hch (nm _ n3.2.2.2.1 n3.2.2.2.2), h.bl.chg hch (nm _ n4.2.2.1 n4.2.2.2), h.bf.chg hch (nm _ n5.2.1 n5.2.2), h.br.chg hch (nm _ n6.1 n6.2), ⟨v, hL⟩, hL2,
  own_chg h.free hch (fun b hb hb' => h.apf b hb (hsub b hb')), h.apf⟩, vc, h1.chg hch (nm _ n1.2.2.2.2.2.1 n1.2.2.2.2.2.2), own_chg h2 hch (fun b hb hb' => h3 b hb (List.mem_append_left _ (hsub b hb'))), h3⟩
end
open Go.RowKit
theorem quietL1 {P : Program} {f : FuncId} {args : Array Value} {w : World} {n : Nat} {v : Value}
  (h : Calls P f args (w.drewN n) fun e w' => e = .returned v ∧ w.drewN n = w') : Calls P f args (w.drewN n) fun e w'' => e = .returned v ∧ ∃ m, w'' = w.drewN m :=
 h.mono fun _ _ ⟨he, hm⟩ => ⟨he, n, hm.symm⟩
set_option maxHeartbeats 1000000 in
theorem castF_any {w0 w : World} {gc gp gk gl gf gr go gF : Nat} {vp vl vf : Value} {cast fr : List Int} {fd : Bool} (A : Option Addr) (n c : Nat) (h : CS w0 w gc gp gk gl gf gr go gF vp (.func (.func 133) #[] #[.pointer (some ⟨go, 0, none⟩), .pointer (some ⟨gF, 0, none⟩)]) vl vf (.func (.func 177) #[] #[.pointer (some ⟨gc, 0, none⟩), .pointer (some ⟨gp, 0, none⟩), .pointer (some ⟨gk, 0, none⟩), .pointer (some ⟨gl, 0, none⟩), .pointer (some ⟨gf, 0, none⟩), .pointer (some ⟨gr, 0, none⟩)]) cast fr fd) :
  Calls Tryz.prog 133 #[.slice A n c, .pointer (some ⟨go, 0, none⟩), .pointer (some ⟨gF, 0, none⟩)] w fun e w' => e = .returned (.bool false) ∧ CS w0 w' gc gp gk gl gf gr go gF vp (.func (.func 133) #[] #[.pointer (some ⟨go, 0, none⟩), .pointer (some ⟨gF, 0, none⟩)]) vl vf (.func (.func 177) #[] #[.pointer (some ⟨gc, 0, none⟩), .pointer (some ⟨gp, 0, none⟩), .pointer (some ⟨gk, 0, none⟩), .pointer (some ⟨gl, 0, none⟩), .pointer (some ⟨gf, 0, none⟩), .pointer (some ⟨gr, 0, none⟩)]) cast fr true := by
 have H := Lib.hid (h.found (v := .slice A n c))
 obtain ⟨vo, h4⟩ := h.rest.bo
 have b0 := (h4 0 _ rfl).1
 have f0 := (h4 0 _ rfl).2
 have hnd := h.rest.nd
 simp only [BX, List.nodup_cons, List.mem_cons, List.not_mem_nil, or_false, not_or] at hnd
 have hne : ¬ go = gF := hnd.2.2.2.2.2.2.1
 have hne' : ¬ gF = go := fun e => hne e.symm
 have b1 := (h.rest.bF 0 _ rfl).1
 have f1 := (h.rest.bF 0 _ rfl).2
 clear h h4 hnd
 go_enter Tryz.func133, Tryz.ntmps133
 go_wp2_with fail
 go_ret
 exact ⟨rfl, H.out⟩
theorem act68cr {a : Act} (h : a.tmps.size = 68) (hd : a.defers = []) : ∃ x0 x1 x2 x3 x4 x5 x6 x7 x8 x9 x10 x11 x12 x13 x14 x15 x16 x17 x18 x19 x20 x21 x22 x23 x24 x25 x26 x27 x28 x29 x30 x31 x32 x33 x34 x35 x36 x37 x38 x39 x40 x41 x42 x43 x44 x45 x46 x47 x48 x49 x50 x51 x52 x53 x54 x55 x56 x57 x58 x59 x60 x61 x62 x63 x64 x65 x66 x67 : Value, a = ⟨#[x0, x1, x2, x3, x4, x5, x6, x7, x8, x9, x10, x11, x12, x13, x14, x15, x16, x17, x18, x19, x20, x21, x22, x23, x24, x25, x26, x27, x28, x29, x30, x31, x32, x33, x34, x35, x36, x37, x38, x39, x40, x41, x42, x43, x44, x45, x46, x47, x48, x49, x50, x51, x52, x53, x54, x55, x56, x57, x58, x59, x60, x61, x62, x63, x64, x65, x66, x67], []⟩ := by
 obtain ⟨⟨l⟩, d⟩ := a
 subst hd
 match l, h with
 | x0 :: x1 :: x2 :: x3 :: x4 :: x5 :: x6 :: x7 :: x8 :: x9 :: x10 :: x11 :: x12 :: x13 :: x14 :: x15 :: x16 :: x17 :: x18 :: x19 :: x20 :: x21 :: x22 :: x23 :: x24 :: x25 :: x26 :: x27 :: x28 :: x29 :: x30 :: x31 :: x32 :: x33 :: x34 :: x35 :: x36 :: x37 :: x38 :: x39 :: x40 :: x41 :: x42 :: x43 :: x44 :: x45 :: x46 :: x47 :: x48 :: x49 :: x50 :: x51 :: x52 :: x53 :: x54 :: x55 :: x56 :: x57 :: x58 :: x59 :: x60 :: x61 :: x62 :: x63 :: x64 :: x65 :: x66 :: x67 :: [], _ => exact ⟨x0, x1, x2, x3, x4, x5, x6, x7, x8, x9, x10, x11, x12, x13, x14, x15, x16, x17, x18, x19, x20, x21, x22, x23, x24, x25, x26, x27, x28, x29, x30, x31, x32, x33, x34, x35, x36, x37, x38, x39, x40, x41, x42, x43, x44, x45, x46, x47, x48, x49, x50, x51, x52, x53, x54, x55, x56, x57, x58, x59, x60, x61, x62, x63, x64, x65, x66, x67, rfl⟩
def pcr (vk : Value) (vc : Value) (B n : Nat) (xs : List Value) (i : Nat) (v : Value) (_ : Nat → Nat) (w : World) : Prop :=
 match i with
 | 0 => v = vk
 | 1 => v = vc
 | 2 => ∃ A c, v = .slice A n c ∧ w.ownsRow B 3 1 (.slice A n c) n xs
 | _ => True
set_option maxHeartbeats 8000000 in
set_option maxRecDepth 100000 in
theorem castR_any (w0 : World) (vp vl vf : Value) (ps0 : List Int) (pl : List RPl) (hp : RdL cInt 1 w0 vp ps0) (hl : RdPls w0 vl pl) (hp7 : ps0.length ≤ 7) (hl6 : pl.length ≤ 6) (gc gp gk gl gf gr go gF : Nat) : ∀ (ps cast fr ld : List Int) (w : World), Hid (ps0.drop cast.length = ps ∧ cast.length ≤ ps0.length) → Hands pl ld fr → CS w0 w gc gp gk gl gf gr go gF vp (.func (.func 133) #[] #[.pointer (some ⟨go, 0, none⟩), .pointer (some ⟨gF, 0, none⟩)]) vl vf (.func (.func 177) #[] #[.pointer (some ⟨gc, 0, none⟩), .pointer (some ⟨gp, 0, none⟩), .pointer (some ⟨gk, 0, none⟩), .pointer (some ⟨gl, 0, none⟩), .pointer (some ⟨gf, 0, none⟩), .pointer (some ⟨gr, 0, none⟩)]) cast fr false →
  Calls Tryz.prog 177 #[.pointer (some ⟨gc, 0, none⟩), .pointer (some ⟨gp, 0, none⟩), .pointer (some ⟨gk, 0, none⟩), .pointer (some ⟨gl, 0, none⟩), .pointer (some ⟨gf, 0, none⟩), .pointer (some ⟨gr, 0, none⟩)] w fun e w' => e = .returned (.bool (!canS pl ps ld)) ∧ CS w0 w' gc gp gk gl gf gr go gF vp (.func (.func 133) #[] #[.pointer (some ⟨go, 0, none⟩), .pointer (some ⟨gF, 0, none⟩)]) vl vf (.func (.func 177) #[] #[.pointer (some ⟨gc, 0, none⟩), .pointer (some ⟨gp, 0, none⟩), .pointer (some ⟨gk, 0, none⟩), .pointer (some ⟨gl, 0, none⟩), .pointer (some ⟨gf, 0, none⟩), .pointer (some ⟨gr, 0, none⟩)]) cast fr (canS pl ps ld) := by
 intro ps
 obtain ⟨i0, hi0, hz0, hz1, hz2⟩ := info_parts infoInt
 induction ps with
 | nil =>
  intro cast fr ld w hps hhd hC
  have hlen : cast.length = ps0.length := by
   have h1 := congrArg List.length hps.out.1
   have h2 := hps.out.2
   simp at h1
   omega
  have hbe : ((cast.length : Int) == (ps0.length : Int)) = true := by rw [beq_iff_eq]; omega
  have hc7 : cast.length ≤ 7 := by omega
  clear hlen hps
  show Calls Tryz.prog 177 _ w fun e w' => e = .returned (.bool false) ∧ CS w0 w' gc gp gk gl gf gr go gF vp (.func (.func 133) #[] #[.pointer (some ⟨go, 0, none⟩), .pointer (some ⟨gF, 0, none⟩)]) vl vf (.func (.func 177) #[] #[.pointer (some ⟨gc, 0, none⟩), .pointer (some ⟨gp, 0, none⟩), .pointer (some ⟨gk, 0, none⟩), .pointer (some ⟨gl, 0, none⟩), .pointer (some ⟨gf, 0, none⟩), .pointer (some ⟨gr, 0, none⟩)]) cast fr true
  obtain ⟨vc, Lc, Oc, _⟩ := hC.cst
  have hpw := hp.below hC.rest.below
  have Ocr : RdL cInt 1 w vc cast := RdS.of_own Oc
  obtain ⟨Ac, cc, rfl, _, _⟩ := Ocr.form
  obtain ⟨Ap, cp, rfl, _, _⟩ := hpw.form
  have c0 := (Lc 0 _ rfl).1
  have p0 := (hC.rest.bp 0 _ rfl).1
  have k0 := (hC.rest.bk 0 _ rfl).1
  go_enter Tryz.func177, Tryz.ntmps177
  go_upto_region 2 with (fail)
  refine region_made (n := 68) 3 (by kernel_rfl) rfl (by kernel_rfl) (fun w' => Below w.heap.size w w') (fun _ => 0) (pcr (.func (.func 133) #[] #[.pointer (some ⟨go, 0, none⟩), .pointer (some ⟨gF, 0, none⟩)]) (.slice Ac cast.length cc) w.heap.size cast.length (cast.flatMap cInt)) (Below.refl _ _).drew ?_ ?_ ?_
  ·intro i v gh gh' w1 w2 hp hJ hb' hg
   match i, hp with
   | 0, hp => exact hp
   | 1, hp => exact hp
   | 2, ⟨A', c', hv, ho⟩ => exact ⟨A', c', hv, own_below ho hb'⟩
   | _ + 3, _ => trivial
  ·refine ⟨?_, ?_, ?_, trivial⟩
   all_goals
    intro a gh w5 hag hJ hd
    have ag0 : a.tmps.getD 0 undef = .pointer (some ⟨gc, 0, none⟩) := hag.kept 0 (by kernel_rfl)
    have ag2 : a.tmps.getD 2 undef = .pointer (some ⟨gk, 0, none⟩) := hag.kept 2 (by kernel_rfl)
    clear hag
   ·have k1 := carry hJ k0
    go_wp2_with fail
    exact ⟨rfl, _, rfl, rfl, hJ, Below.refl _ _⟩
   ·have c1 := carry hJ c0
    go_wp2_with fail
    exact ⟨rfl, _, rfl, rfl, hJ, Below.refl _ _⟩
   ·have e1 : a.tmps.getD 16 undef = .slice Ac cast.length cc := hd 1 (by kernel_rfl) _ rfl
    go_wp2_with fail
    refine (copyOf_any _ cast w5 (Ocr.below hJ) (by omega)).mono ?_
    rintro e w6 ⟨v5, rfl, own5, hb5⟩
    obtain ⟨A5, c5, rfl, _, _⟩ := (RdS.of_own own5).form
    go_wp2_with fail
    exact ⟨rfl, _, rfl, ⟨A5, c5, rfl, own_mono own5 hJ.size⟩, bl_trans hJ hb5, hb5⟩
  ·intro a gh w5 hag hJ hd
   obtain ⟨x0, x1, x2, x3, x4, x5, x6, x7, x8, x9, x10, x11, x12, x13, x14, x15, x16, x17, x18, x19, x20, x21, x22, x23, x24, x25, x26, x27, x28, x29, x30, x31, x32, x33, x34, x35, x36, x37, x38, x39, x40, x41, x42, x43, x44, x45, x46, x47, x48, x49, x50, x51, x52, x53, x54, x55, x56, x57, x58, x59, x60, x61, x62, x63, x64, x65, x66, x67, rfl⟩ := act68cr hag.size hag.defers
   have ag0 : x0 = .pointer (some ⟨gc, 0, none⟩) := hag.kept 0 (by kernel_rfl)
   have ag1 : x1 = .pointer (some ⟨gp, 0, none⟩) := hag.kept 1 (by kernel_rfl)
   have ag2 : x2 = .pointer (some ⟨gk, 0, none⟩) := hag.kept 2 (by kernel_rfl)
   have ag3 : x3 = .pointer (some ⟨gl, 0, none⟩) := hag.kept 3 (by kernel_rfl)
   have ag4 : x4 = .pointer (some ⟨gf, 0, none⟩) := hag.kept 4 (by kernel_rfl)
   have ag5 : x5 = .pointer (some ⟨gr, 0, none⟩) := hag.kept 5 (by kernel_rfl)
   have ag7 : x7 = undef := hag.kept 7 (by kernel_rfl)
   have ag8 : x8 = undef := hag.kept 8 (by kernel_rfl)
   have ag9 : x9 = undef := hag.kept 9 (by kernel_rfl)
   clear hag
   subst ag0 ag1 ag2 ag3 ag4 ag5 ag7 ag8 ag9
   have e1 : x15 = .func (.func 133) #[] #[.pointer (some ⟨go, 0, none⟩), .pointer (some ⟨gF, 0, none⟩)] := hd 0 (by kernel_rfl) _ rfl
   obtain ⟨A5, c5, e2, own5⟩ : ∃ A c, x17 = .slice A cast.length c ∧ w5.ownsRow w.heap.size 3 1 (.slice A cast.length c) cast.length (cast.flatMap cInt) := hd 2 (by kernel_rfl) _ rfl
   subst e1 e2
   change wpList _ _ _ [_, _] _ _
   have hC5 := hC.keep hJ
   clear hC hJ hd c0 p0 k0
   go_wp2_with fail
   refine (castF_any _ _ _ hC5).mono ?_
   rintro e w6 ⟨rfl, hC6⟩
   go_wp2_with fail
   go_ret
   exact ⟨rfl, hC6⟩
 | cons x ps ih =>
  intro cast fr ld w hps hhd hC
  have hcp : cast.length < ps0.length := by
   have h1 := congrArg List.length hps.out.1
   simp at h1
   omega
  have hdr := hps.out.1
  rw [List.drop_eq_getElem_cons hcp] at hdr
  injection hdr with hdr1 hdr2
  have hpx : ∀ h : cast.length < ps0.length, ps0[cast.length] = x := fun _ => hdr1
  have Hps2 := Lib.hid hdr2
  clear hdr1 hdr2
  have hHD := Lib.hid hhd
  obtain ⟨vc, Lc, Oc, _⟩ := hC.cst
  have hpw := hp.below hC.rest.below
  obtain ⟨Ac, cc, rfl, _, _⟩ := (RdS.of_own Oc).form
  obtain ⟨Ap, cp, rfl, _, _⟩ := hpw.form
  obtain ⟨Al, cl, rfl, _, _⟩ := hl.form
  have c0 := (Lc 0 _ rfl).1
  have p0 := (hC.rest.bp 0 _ rfl).1
  have l0 := (hC.rest.bl 0 _ rfl).1
  have hne : ((cast.length : Int) == (ps0.length : Int)) = false := by rw [beq_eq_false_iff_ne]; omega
  have Hpx := Lib.hid hpx
  have HI := Lib.hid ih
  clear ih Lc Oc hpw hps hpx
  go_enter Tryz.func177, Tryz.ntmps177
  go_wp2_with fail
  go_loopw [7, 8, 9, 21] (fun _ _ _ i wr => ∃ k : Nat, k ≤ pl.length ∧ i = .int .i64 k ∧ Hid (TriedF pl x ps ld k) ∧ CS w0 wr gc gp gk gl gf gr go gF (.slice Ap ps0.length cp) (.func (.func 133) #[] #[.pointer (some ⟨go, 0, none⟩), .pointer (some ⟨gF, 0, none⟩)]) (.slice Al pl.length cl) vf (.func (.func 177) #[] #[.pointer (some ⟨gc, 0, none⟩), .pointer (some ⟨gp, 0, none⟩), .pointer (some ⟨gk, 0, none⟩), .pointer (some ⟨gl, 0, none⟩), .pointer (some ⟨gf, 0, none⟩), .pointer (some ⟨gr, 0, none⟩)]) cast fr false) (fun _ _ _ i _ => pl.length - (intOf i).toNat)
  case atStart => exact ⟨0, Nat.zero_le _, rfl, TriedF.zero _ _ _ _, hC⟩
  case round =>
   obtain ⟨k, hk, rfl, htr, hCr⟩ := hrel
   clear hC c0 p0 l0
   by_cases hlt : k < pl.length
   ·have hlr := hl.below hCr.rest.below
    obtain ⟨g, off, u, rfl, hg, k0, k1, hru⟩ := hlr.cell hlt
    have hkf : k < fr.length := by have := hHD.out.l2; omega
    have HCN := Lib.hid (hHD.out.can hlt hkf x)
    have HKN := Lib.hid (knows_ix pl[k] x)
    obtain ⟨Au, cu, rfl, _, _⟩ := hru.form
    generalize hqk : pl[k] = q at *
    obtain ⟨r, f⟩ := q
    simp only at k0 k1 hru HKN
    go_upto_region 6 with (fail)
    have hal : Below wr.heap.size wr (wr.alloc (.cells #[.slice Au r.length cu, .int .i64 f] 39)) := (Below.refl _ _).alloc (Nat.le_refl _) _
    have Lq : Loc (wr.alloc (.cells #[.slice Au r.length cu, .int .i64 f] 39)) wr.heap.size [.slice Au r.length cu, .int .i64 f] := Loc.new wr #[.slice Au r.length cu, .int .i64 f] 39
    obtain ⟨gq, hgq⟩ : ∃ g, wr.heap.size = g := ⟨_, rfl⟩
    rw [hgq] at Lq
    have hC1 := hCr.keep hal
    have hru1 := hru.below hal
    clear k0 k1 hlr hCr hru
    generalize (wr.alloc (.cells #[.slice Au r.length cu, .int .i64 f] 39)) = W1 at *
    rw [hgq]
    clear hal hgq hg
    obtain ⟨vc1, Lc1, Oc1, _⟩ := hC1.cst
    obtain ⟨Ac1, cc1, rfl, _, _⟩ := (RdS.of_own Oc1).form
    obtain ⟨gv, cv, hvf, v0, vf0, HST⟩ := hC1.free_at hkf
    subst hvf
    have hpw := hp.below hC1.rest.below
    obtain ⟨gx, ox, rfl, hgx, hcx⟩ := hpw.cell (k := cast.length) cInt_len (by omega) hcp
    have x0 := hcx 0 _ rfl
    simp only [Nat.add_zero, Nat.mul_one] at x0
    rw [Hpx.out hcp] at x0
    clear hcx
    have b0 := (Lc1 0 _ rfl).1
    have b1 := (hC1.rest.bp 0 _ rfl).1
    have b2 := (hC1.rest.bl 0 _ rfl).1
    have b3 := (hC1.rest.bf 0 _ rfl).1
    have b5 := (Lq 0 _ rfl).1
    have b6 := (Lq 1 _ rfl).1
    have hix := idxF_le (l := r) (n := x)
    have HX : Hid (∀ n : Nat, Calls Tryz.prog 178 #[.slice Au r.length cu, .int .i64 x] (W1.drewN n) fun e w'' => e = .returned (.int .i64 (idxF r x)) ∧ ∃ m, w'' = W1.drewN m) := fun n => quietL1 (indexOf_any _ r x (W1.drewN n) hru1)
    obtain ⟨fk, hfk⟩ : ∃ fk, fr[k] = fk := ⟨_, rfl⟩
    have HAT := Lib.hid (fun h1 => hHD.out.at_ k hlt h1 hkf)
    rw [hfk] at v0 HCN HAT
    have HFK := Lib.hid hfk
    have hfb : 0 ≤ fk ∧ fk ≤ 2 := by have := HAT.out (by have := hHD.out.l1; omega); omega
    clear hfk Lq hru1 HST hqk
    generalize idxF r x = ix at *
    have hcl : ((cast.length : Nat) : Int) < ((ps0.length : Nat) : Int) := by omega
    by_cases hz : fk = 0
    ·have hzf : (fk == 0) = true := by rw [beq_iff_eq]; exact hz
     have HN := Lib.hid (htr.out.no (show canAt pl x ld k = false by rw [HCN.out, hz]; rfl))
     clear hz
     go_wp2_with fail
     go_quiet (fail)
     rename_i nq
     have hC2 := hC1.drewN nq
     clear b0 b1 b2 b3 b5 b6 v0 vf0 x0
     generalize W1.drewN nq = W2 at *
     go_wp2_with fail
     go_roundw
     case rel => exact ⟨k + 1, by omega, by go_num, HN.out, hC2⟩
     case measure => simp [intOf]; omega
    ·have hzf : (fk == 0) = false := by rw [beq_eq_false_iff_ne]; exact hz
     have Hz := Lib.hid hz
     clear hz
     by_cases hi : ix < 0
     ·have hi1 : decide (ix < 0) = true := decide_eq_true hi
      have HN := Lib.hid (htr.out.no (show canAt pl x ld k = false by rw [HCN.out, Bool.eq_false_iff.2 (fun e => absurd (HKN.out.1 e) (by omega)), Bool.and_false]))
      go_wp2_with fail
      go_quiet ((go_at_call 178; exact HX.out _))
      rename_i nq
      have hC2 := hC1.drewN nq
      clear b0 b1 b2 b3 b5 b6 v0 vf0 x0
      generalize W1.drewN nq = W2 at *
      go_wp2_with fail
      go_roundw
      case rel => exact ⟨k + 1, by omega, by go_num, HN.out, hC2⟩
      case measure => simp [intOf]; omega
     ·have hi1 : decide (ix < 0) = false := decide_eq_false hi
      have HCT := Lib.hid (show canAt pl x ld k = true by rw [HCN.out, HKN.out.2 (by omega), decide_eq_true Hz.out]; rfl)
      have HLS : Hid (Hands pl (bump ld k) (fr.set k (fk - 1))) := by have := hHD.out.less hkf (by rw [HFK.out]; exact Hz.out); rw [HFK.out] at this; exact this
      clear hix
      go_wp2_with fail
      go_quiet ((go_at_call 178; exact HX.out _))
      rename_i nq
      have hC2 := hC1.drewN nq
      clear b0 b1 b2 b3 b5 b6 v0 vf0 x0 HX Lc1 Oc1 hpw hC1
      generalize W1.drewN nq = W2 at *
      -- a hand is taken
      obtain ⟨gv', cv', e, v0, vf0, HST⟩ := hC2.free_at hkf
      injection e with e1 e2 e3
      injection e1 with e1
      injection e1 with e1
      subst e1 e3
      clear e2
      rw [HFK.out] at v0
      have b3 := (hC2.rest.bf 0 _ rfl).1
      have hw1 : IntKind.i64.wrap (fk - 1) = fk - 1 := IntWalk.i64_in _ (by omega)
      go_upto_region 8 with (fail)
      have hC3 := HST (fk - 1)
      clear HST v0 vf0 b3 hC2 hw1
      generalize W2.setCell ⟨gv, k, none⟩ (.int .i64 (fk - 1)) = W3 at *
      -- the cast grows
      obtain ⟨vc3, Lc3, Oc3, Ap3⟩ := hC3.cst
      obtain ⟨Ac3, cc3, rfl, _, _⟩ := (RdS.of_own Oc3).form
      have b0 := (Lc3 0 _ rfl).1
      have hal : Below W3.heap.size W3 (W3.alloc (.cells #[.int .i64 k] 3)) := (Below.refl _ _).alloc (Nat.le_refl _) _
      have hC4 := hC3.keep hal
      have hZ4 := hC4.rest.below.size
      have Lc4 := Lc3.below hal
      have Oc4 := own_below Oc3 hal
      go_wp2_with (at_builtin; refine wpList_appendB _ rfl (.tmp 48) (.tmp 50) _ rfl w0.heap.size 3 i0 _ 1 8 Tryz.underlying28 hi0 hz0 hz1 hz2 rfl (by omega) _ cast.length (cast.flatMap cInt) rfl Oc4 _ 1 [.int .i64 k] rfl (rdS_new W3 #[.int .i64 k] _ 1 1 rfl (by simp [maxLen])) (by simp [Value.oneCell']) (by simp [maxLen]; omega) (by omega) hZ4 ?_; intro v5 w5 own5 gr5 at5; obtain ⟨HG5, Lc5⟩ := hC4.rest.grown Lc4 Oc4 Ap3 gr5 at5; have b5 := (Lc5 0 _ rfl).1; have f5 := (Lc5 0 _ rfl).2; obtain ⟨A5, c5, rfl, _, _⟩ := (RdS.of_own own5).form; have hC5 := HG5 (cast ++ [(k : Int)]) (by rw [List.length_append, List.flatMap_append]; exact own5); have b4 := (hC5.rest.br 0 _ rfl).1)
      clear HG5 gr5 at5 Lc5 Oc4 Lc4 hC4 hC3 hal b0 Lc3 Oc3 Ap3 own5
      clear b5 f5
      generalize w5.setCell ⟨gc, 0, none⟩ (.slice A5 (cast.length + 1) c5) = W6 at *
      have hI := HI.out (cast ++ [(k : Int)]) (fr.set k (fk - 1)) (bump ld k) W6 (show Hid (_ ∧ _) from ⟨by rw [List.length_append]; exact Hps2.out, by simp; omega⟩) HLS.out hC5
      obtain ⟨cb, hcb⟩ : ∃ cb, canS pl ps (bump ld k) = cb := ⟨_, rfl⟩
      rw [hcb] at hI
      have HCB := Lib.hid hcb
      clear hcb hC5
      refine hI.mono ?_
      rintro e W7 ⟨rfl, hC7⟩
      clear hI b4
      -- the cast's last is taken away
      obtain ⟨g7, c7, L7, hle7, hC8⟩ := hC7.pop
      have b7 := (L7 0 _ rfl).1
      have f7 := (L7 0 _ rfl).2
      obtain ⟨n7, hn7⟩ : ∃ n, cast.length + 1 = n := ⟨_, rfl⟩
      rw [hn7] at b7 hle7
      have hw1 : IntKind.i64.wrap ((n7 : Int) - 1) = (n7 : Int) - 1 := IntWalk.i64_in _ (by omega)
      have hw2 : (0 : Int) ≤ (n7 : Int) - 1 := by omega
      have hw3 : ((n7 : Int) - 1).toNat = cast.length := by omega
      have hw4 : ¬ (n7 : Int) - 1 < 0 := by omega
      have hw5 : (n7 : Int) - 1 ≤ (c7 : Int) := by omega
      have hw6 : (1 : Int) ≤ (n7 : Int) := by omega
      go_upto_region 11 with (fail)
      clear hw1 hw2 hw3 hw4 hw5 hw6 b7 f7 L7 hC7
      generalize W7.setCell ⟨gc, 0, none⟩ (.slice (some ⟨g7, 0, none⟩) cast.length c7) = W8 at *
      clear hn7 hle7
      -- the hand is free again
      obtain ⟨gv2, cv2, e, v0, vf0, HST⟩ := hC8.free_at (k := k) (by simp; omega)
      injection e with e1 e2 e3
      injection e1 with e1
      injection e1 with e1
      subst e1 e3
      clear e2
      rw [List.getElem_set_self] at v0
      have b3 := (hC8.rest.bf 0 _ rfl).1
      have hC9 := HST fk
      have hsb := set_back hkf (fk - 1)
      rw [HFK.out] at hsb
      rw [hsb] at hC9
      obtain ⟨f1, hf1⟩ : ∃ f1, fk - 1 = f1 := ⟨_, rfl⟩
      have hw1 : IntKind.i64.wrap (f1 + 1) = fk := by rw [IntWalk.i64_in _ (by omega)]; omega
      rw [hf1] at v0
      clear HST hC8 hsb hf1
      go_upto_region 12 with (fail)
      clear v0 vf0 b3 hw1
      generalize W8.setCell ⟨gv, k, none⟩ (.int .i64 fk) = W9 at *
      cases cb
      ·have HN := Lib.hid (htr.out.sub HCB.out)
       go_wp2_with fail
       go_roundw
       case rel => exact ⟨k + 1, by omega, by go_num, HN.out, hC9⟩
       case measure => simp [intOf]; omega
      ·have HY := Lib.hid (canS_t hlt HCT.out HCB.out)
       go_wp2_with fail
       go_ret
       exact ⟨by rw [HY.out]; rfl, by rw [HY.out]; exact hC9⟩
   ·obtain rfl : k = pl.length := by omega
    have HE := Lib.hid htr.out.end_
    have l0 := (hCr.rest.bl 0 _ rfl).1
    go_wp2_with fail
    go_ret
    exact ⟨by rw [HE.out]; rfl, by rw [HE.out]; exact hCr⟩
open Go.RowKit
structure CP (w0 w : World) (gx : Nat) (bxs : List (Nat × Value)) (vc vf : Value) (fr : List Int) : Prop where
 base : ∀ b ∈ gx :: bxs.map (·.1), w0.heap.size ≤ b
 nd : (gx :: bxs.map (·.1)).Nodup
 below : Below w0.heap.size w0 w
 at_ : ∀ p ∈ bxs, Loc w p.1 [p.2]
 box : Loc w gx [vf]
 own : w.ownsRow w0.heap.size 3 1 vf fr.length (fr.flatMap cInt)
 ap : ∀ b ∈ vf.ownBlock.toList, b ∉ gx :: bxs.map (·.1)
 emp : w.ownsRow w0.heap.size 3 1 vc 0 []
 ap2 : ∀ b ∈ vc.ownBlock.toList, b ∉ gx :: bxs.map (·.1) ∧ b ∉ vf.ownBlock.toList
section
variable {w0 w w' : World} {gx : Nat} {bxs : List (Nat × Value)} {vc vf : Value} {fr : List Int}
theorem CP.keep (h : CP w0 w gx bxs vc vf fr) (hb : Below w.heap.size w w') : CP w0 w' gx bxs vc vf fr :=
 ⟨h.base, h.nd, h.below.trans (hb.mono h.below.size), fun p hp => (h.at_ p hp).below hb, h.box.below hb, own_below h.own hb, h.ap, own_below h.emp hb, h.ap2⟩
theorem CP.grow (h : CP w0 w gx bxs vc vf fr) (hg : w.grownBy w' vf.ownBlock) {v' : Value} (hat : v'.ownBlock = vf.ownBlock ∨ v'.ownBlock = some w.heap.size) :
  Loc w' gx [vf] ∧ ∀ f', w'.ownsRow w0.heap.size 3 1 v' f'.length (List.flatMap cInt f') → CP w0 (w'.setCell ⟨gx, 0, none⟩ v') gx bxs vc v' f' := by
 have hch := Chg.of_grown hg
 have hn : ∀ b ∈ gx :: bxs.map (·.1), b ∉ vf.ownBlock.toList := fun b hb hb' => h.ap b hb' hb
 have hlt : ∀ b ∈ gx :: bxs.map (·.1), b < w.heap.size := fun b hb => by
  rcases List.mem_cons.1 hb with rfl | hb
  ·exact loc_lt h.box
  ·obtain ⟨p, hp, rfl⟩ := List.mem_map.1 hb
   exact loc_lt (h.at_ p hp)
 have hap' : ∀ b ∈ v'.ownBlock.toList, b ∉ gx :: bxs.map (·.1) := fun b hb hb' => by
  rcases hat with e | e
  ·rw [e] at hb; exact h.ap b hb hb'
  ·rw [e] at hb
   have e2 : b = w.heap.size := by simpa using hb
   have := hlt b hb'
   omega
 have hL' := h.box.chg hch (hn _ (by simp))
 have hb : Below w0.heap.size w0 w' := Below.chg h.below hch h.below.size (fun b hb => (own_lt h.own b hb).1)
 refine ⟨hL', fun f' hf' => ?_⟩
 have hset : Chg [gx] w' (w'.setCell ⟨gx, 0, none⟩ v') := chg_set (Chg.refl _ _) (by simp)
 have h1 : ∀ p ∈ bxs, p.1 ∉ [gx] := fun p hp hb' => by
  have := h.nd
  rw [List.nodup_cons] at this
  have e := List.mem_singleton.1 hb'
  exact this.1 (e ▸ List.mem_map.2 ⟨p, hp, rfl⟩)
 refine ⟨h.base, h.nd, hb.setCell (h.base gx (by simp)) _, fun p hp => ((h.at_ p hp).chg hch (hn _ (List.mem_cons_of_mem _ (List.mem_map.2 ⟨p, hp, rfl⟩)))).chg hset (h1 p hp), hL'.set (i := 0) (v := vf) rfl, own_chg hf' hset (fun b hb hb' => hap' b hb (by rw [List.mem_singleton.1 hb']; simp)), hap',
  own_chg (own_chg h.emp hch (fun b hb => (h.ap2 b hb).2)) hset (fun b hb hb' => (h.ap2 b hb).1 (by rw [List.mem_singleton.1 hb']; simp)), fun b hb => ⟨(h.ap2 b hb).1, fun hb' => ?_⟩⟩
 rcases hat with e | e
 ·rw [e] at hb'; exact (h.ap2 b hb).2 hb'
 ·rw [e] at hb'
  have e2 : b = w.heap.size := by simpa using hb'
  have := (own_lt h.emp b hb).2
  omega
end
set_option maxHeartbeats 8000000 in
set_option maxRecDepth 100000 in
theorem castings_any (w0 w : World) (vp vl : Value) (ps0 : List Int) (pl : List RPl) (hp : RdL cInt 1 w0 vp ps0) (hl : RdPls w0 vl pl) (hp7 : ps0.length ≤ 7) (hl6 : pl.length ≤ 6) (hfr : ∀ r ∈ pl, 0 ≤ r.2 ∧ r.2 ≤ 2) (go gF : Nat) (hb : Below w0.heap.size w0 w) (hgo : w0.heap.size ≤ go) (hgF : w0.heap.size ≤ gF) (hne : go ≠ gF) (vo : Value) (Lo : Loc w go [vo]) (LF : Loc w gF [.bool false]) :
  Calls Tryz.prog 132 #[vl, vp, .func (.func 133) #[] #[.pointer (some ⟨go, 0, none⟩), .pointer (some ⟨gF, 0, none⟩)]] w fun e w' => e = .returned (.tuple #[]) ∧ (∃ vo, Loc w' go [vo]) ∧ Loc w' gF [.bool (canS pl ps0 (zeroL pl.length))] ∧ Below w0.heap.size w0 w' := by
 obtain ⟨i0, hi0, hz0, hz1, hz2⟩ := info_parts infoInt
 have hpw := hp.below hb
 have hlw := hl.below hb
 obtain ⟨Ap, cp, rfl, _, _⟩ := hpw.form
 obtain ⟨Al, cl, rfl, _, _⟩ := hlw.form
 have hgol := loc_lt Lo
 have hgFl := loc_lt LF
 have hz := hb.size
 have a0 : Below w.heap.size w (w.alloc (.cells #[.slice Al pl.length cl] 25)) := (Below.refl _ _).alloc (Nat.le_refl _) _
 have hbW : Below w.heap.size w (((((((w.alloc (.cells #[.slice Al pl.length cl] 25)).alloc (.cells #[.slice Ap ps0.length cp] 28)).alloc (.cells #[.func (.func 133) #[] #[.pointer (some ⟨go, 0, none⟩), .pointer (some ⟨gF, 0, none⟩)]] 145)).alloc (.cells #[] 3)).alloc (.cells #[] 3)).alloc (.cells #[.slice (some ⟨w.heap.size + 1 + 1 + 1, 0, none⟩) 0 0] 28)).alloc (.cells #[.slice (some ⟨w.heap.size + 1 + 1 + 1 + 1, 0, none⟩) 0 0] 28)) := by (repeat' (with_reducible first | exact Below.refl _ _ | assumption | refine qS ?_ _ | refine qA ?_ _ | refine qD ?_ | refine qN ?_ _))
 have L1 : Loc (((((((w.alloc (.cells #[.slice Al pl.length cl] 25)).alloc (.cells #[.slice Ap ps0.length cp] 28)).alloc (.cells #[.func (.func 133) #[] #[.pointer (some ⟨go, 0, none⟩), .pointer (some ⟨gF, 0, none⟩)]] 145)).alloc (.cells #[] 3)).alloc (.cells #[] 3)).alloc (.cells #[.slice (some ⟨w.heap.size + 1 + 1 + 1, 0, none⟩) 0 0] 28)).alloc (.cells #[.slice (some ⟨w.heap.size + 1 + 1 + 1 + 1, 0, none⟩) 0 0] 28)) w.heap.size [.slice Al pl.length cl] := (((((((Loc.new w #[.slice Al pl.length cl] 25).alloc _).alloc _).alloc _).alloc _).alloc _).alloc _)
 have L2 : Loc (((((((w.alloc (.cells #[.slice Al pl.length cl] 25)).alloc (.cells #[.slice Ap ps0.length cp] 28)).alloc (.cells #[.func (.func 133) #[] #[.pointer (some ⟨go, 0, none⟩), .pointer (some ⟨gF, 0, none⟩)]] 145)).alloc (.cells #[] 3)).alloc (.cells #[] 3)).alloc (.cells #[.slice (some ⟨w.heap.size + 1 + 1 + 1, 0, none⟩) 0 0] 28)).alloc (.cells #[.slice (some ⟨w.heap.size + 1 + 1 + 1 + 1, 0, none⟩) 0 0] 28)) (w.heap.size + 1) [.slice Ap ps0.length cp] := by have := ((((((Loc.new (w.alloc (.cells #[.slice Al pl.length cl] 25)) #[.slice Ap ps0.length cp] 28).alloc (.cells #[.func (.func 133) #[] #[.pointer (some ⟨go, 0, none⟩), .pointer (some ⟨gF, 0, none⟩)]] 145)).alloc (.cells #[] 3)).alloc (.cells #[] 3)).alloc (.cells #[.slice (some ⟨w.heap.size + 1 + 1 + 1, 0, none⟩) 0 0] 28)).alloc (.cells #[.slice (some ⟨w.heap.size + 1 + 1 + 1 + 1, 0, none⟩) 0 0] 28)); simpa using this
 have L3 : Loc (((((((w.alloc (.cells #[.slice Al pl.length cl] 25)).alloc (.cells #[.slice Ap ps0.length cp] 28)).alloc (.cells #[.func (.func 133) #[] #[.pointer (some ⟨go, 0, none⟩), .pointer (some ⟨gF, 0, none⟩)]] 145)).alloc (.cells #[] 3)).alloc (.cells #[] 3)).alloc (.cells #[.slice (some ⟨w.heap.size + 1 + 1 + 1, 0, none⟩) 0 0] 28)).alloc (.cells #[.slice (some ⟨w.heap.size + 1 + 1 + 1 + 1, 0, none⟩) 0 0] 28)) (w.heap.size + 1 + 1) [.func (.func 133) #[] #[.pointer (some ⟨go, 0, none⟩), .pointer (some ⟨gF, 0, none⟩)]] := by have := (((((Loc.new ((w.alloc (.cells #[.slice Al pl.length cl] 25)).alloc (.cells #[.slice Ap ps0.length cp] 28)) #[.func (.func 133) #[] #[.pointer (some ⟨go, 0, none⟩), .pointer (some ⟨gF, 0, none⟩)]] 145).alloc (.cells #[] 3)).alloc (.cells #[] 3)).alloc (.cells #[.slice (some ⟨w.heap.size + 1 + 1 + 1, 0, none⟩) 0 0] 28)).alloc (.cells #[.slice (some ⟨w.heap.size + 1 + 1 + 1 + 1, 0, none⟩) 0 0] 28)); simpa using this
 have L6 : Loc (((((((w.alloc (.cells #[.slice Al pl.length cl] 25)).alloc (.cells #[.slice Ap ps0.length cp] 28)).alloc (.cells #[.func (.func 133) #[] #[.pointer (some ⟨go, 0, none⟩), .pointer (some ⟨gF, 0, none⟩)]] 145)).alloc (.cells #[] 3)).alloc (.cells #[] 3)).alloc (.cells #[.slice (some ⟨w.heap.size + 1 + 1 + 1, 0, none⟩) 0 0] 28)).alloc (.cells #[.slice (some ⟨w.heap.size + 1 + 1 + 1 + 1, 0, none⟩) 0 0] 28)) (w.heap.size + 1 + 1 + 1 + 1 + 1) [.slice (some ⟨w.heap.size + 1 + 1 + 1, 0, none⟩) 0 0] := by have := ((Loc.new (((((w.alloc (.cells #[.slice Al pl.length cl] 25)).alloc (.cells #[.slice Ap ps0.length cp] 28)).alloc (.cells #[.func (.func 133) #[] #[.pointer (some ⟨go, 0, none⟩), .pointer (some ⟨gF, 0, none⟩)]] 145)).alloc (.cells #[] 3)).alloc (.cells #[] 3)) #[.slice (some ⟨w.heap.size + 1 + 1 + 1, 0, none⟩) 0 0] 28).alloc (.cells #[.slice (some ⟨w.heap.size + 1 + 1 + 1 + 1, 0, none⟩) 0 0] 28)); simpa using this
 have L7 : Loc (((((((w.alloc (.cells #[.slice Al pl.length cl] 25)).alloc (.cells #[.slice Ap ps0.length cp] 28)).alloc (.cells #[.func (.func 133) #[] #[.pointer (some ⟨go, 0, none⟩), .pointer (some ⟨gF, 0, none⟩)]] 145)).alloc (.cells #[] 3)).alloc (.cells #[] 3)).alloc (.cells #[.slice (some ⟨w.heap.size + 1 + 1 + 1, 0, none⟩) 0 0] 28)).alloc (.cells #[.slice (some ⟨w.heap.size + 1 + 1 + 1 + 1, 0, none⟩) 0 0] 28)) (w.heap.size + 1 + 1 + 1 + 1 + 1 + 1) [.slice (some ⟨w.heap.size + 1 + 1 + 1 + 1, 0, none⟩) 0 0] := by have := (Loc.new ((((((w.alloc (.cells #[.slice Al pl.length cl] 25)).alloc (.cells #[.slice Ap ps0.length cp] 28)).alloc (.cells #[.func (.func 133) #[] #[.pointer (some ⟨go, 0, none⟩), .pointer (some ⟨gF, 0, none⟩)]] 145)).alloc (.cells #[] 3)).alloc (.cells #[] 3)).alloc (.cells #[.slice (some ⟨w.heap.size + 1 + 1 + 1, 0, none⟩) 0 0] 28)) #[.slice (some ⟨w.heap.size + 1 + 1 + 1 + 1, 0, none⟩) 0 0] 28); simpa using this
 have O1 : (((((((w.alloc (.cells #[.slice Al pl.length cl] 25)).alloc (.cells #[.slice Ap ps0.length cp] 28)).alloc (.cells #[.func (.func 133) #[] #[.pointer (some ⟨go, 0, none⟩), .pointer (some ⟨gF, 0, none⟩)]] 145)).alloc (.cells #[] 3)).alloc (.cells #[] 3)).alloc (.cells #[.slice (some ⟨w.heap.size + 1 + 1 + 1, 0, none⟩) 0 0] 28)).alloc (.cells #[.slice (some ⟨w.heap.size + 1 + 1 + 1 + 1, 0, none⟩) 0 0] 28)).ownsRow w0.heap.size 3 1 (.slice (some ⟨w.heap.size + 1 + 1 + 1, 0, none⟩) 0 0) 0 [] := by
  have := (((World.ownsRow_made (size := 1) (e := 3) (((w.alloc (.cells #[.slice Al pl.length cl] 25)).alloc (.cells #[.slice Ap ps0.length cp] 28)).alloc (.cells #[.func (.func 133) #[] #[.pointer (some ⟨go, 0, none⟩), .pointer (some ⟨gF, 0, none⟩)]] 145)) #[] 0 (Nat.le_refl _) (by simp [maxLen]) rfl).alloc (.cells #[] 3)).alloc (.cells #[.slice (some ⟨w.heap.size + 1 + 1 + 1, 0, none⟩) 0 0] 28)).alloc (.cells #[.slice (some ⟨w.heap.size + 1 + 1 + 1 + 1, 0, none⟩) 0 0] 28)
  exact own_mono (by simpa using this) (by omega)
 have O2 : (((((((w.alloc (.cells #[.slice Al pl.length cl] 25)).alloc (.cells #[.slice Ap ps0.length cp] 28)).alloc (.cells #[.func (.func 133) #[] #[.pointer (some ⟨go, 0, none⟩), .pointer (some ⟨gF, 0, none⟩)]] 145)).alloc (.cells #[] 3)).alloc (.cells #[] 3)).alloc (.cells #[.slice (some ⟨w.heap.size + 1 + 1 + 1, 0, none⟩) 0 0] 28)).alloc (.cells #[.slice (some ⟨w.heap.size + 1 + 1 + 1 + 1, 0, none⟩) 0 0] 28)).ownsRow w0.heap.size 3 1 (.slice (some ⟨w.heap.size + 1 + 1 + 1 + 1, 0, none⟩) 0 0) 0 [] := by
  have := ((World.ownsRow_made (size := 1) (e := 3) ((((w.alloc (.cells #[.slice Al pl.length cl] 25)).alloc (.cells #[.slice Ap ps0.length cp] 28)).alloc (.cells #[.func (.func 133) #[] #[.pointer (some ⟨go, 0, none⟩), .pointer (some ⟨gF, 0, none⟩)]] 145)).alloc (.cells #[] 3)) #[] 0 (Nat.le_refl _) (by simp [maxLen]) rfl).alloc (.cells #[.slice (some ⟨w.heap.size + 1 + 1 + 1, 0, none⟩) 0 0] 28)).alloc (.cells #[.slice (some ⟨w.heap.size + 1 + 1 + 1 + 1, 0, none⟩) 0 0] 28)
  exact own_mono (by simpa using this) (by omega)
 have hC : CP w0 (((((((w.alloc (.cells #[.slice Al pl.length cl] 25)).alloc (.cells #[.slice Ap ps0.length cp] 28)).alloc (.cells #[.func (.func 133) #[] #[.pointer (some ⟨go, 0, none⟩), .pointer (some ⟨gF, 0, none⟩)]] 145)).alloc (.cells #[] 3)).alloc (.cells #[] 3)).alloc (.cells #[.slice (some ⟨w.heap.size + 1 + 1 + 1, 0, none⟩) 0 0] 28)).alloc (.cells #[.slice (some ⟨w.heap.size + 1 + 1 + 1 + 1, 0, none⟩) 0 0] 28)) (w.heap.size + 1 + 1 + 1 + 1 + 1) [(w.heap.size, .slice Al pl.length cl), (w.heap.size + 1, .slice Ap ps0.length cp), (w.heap.size + 1 + 1, .func (.func 133) #[] #[.pointer (some ⟨go, 0, none⟩), .pointer (some ⟨gF, 0, none⟩)]), (w.heap.size + 1 + 1 + 1 + 1 + 1 + 1, .slice (some ⟨w.heap.size + 1 + 1 + 1 + 1, 0, none⟩) 0 0), (go, vo), (gF, .bool false)] (.slice (some ⟨w.heap.size + 1 + 1 + 1 + 1, 0, none⟩) 0 0) (.slice (some ⟨w.heap.size + 1 + 1 + 1, 0, none⟩) 0 0) [] := by
  refine ⟨fun b hb => ?_, by simp; omega, hb.trans (hbW.mono hz), fun p hp => ?_, L6, O1, fun b hb => ?_, O2, fun b hb => ?_⟩
  ·simp at hb; omega
  ·simp only [List.mem_cons, List.not_mem_nil, or_false] at hp
   rcases hp with rfl | rfl | rfl | rfl | rfl | rfl
   ·exact L1
   ·exact L2
   ·exact L3
   ·exact L7
   ·exact Lo.below hbW
   ·exact LF.below hbW
  ·simp [Value.ownBlock] at hb; subst hb; simp; omega
  ·simp [Value.ownBlock] at hb; subst hb; simp [Value.ownBlock]; omega
 clear L1 L2 L3 L6 L7 O1 O2 hbW a0
 go_enter Tryz.func132, Tryz.ntmps132
 go_upto_region 2 with (fail)
 generalize ((((((w.alloc (.cells #[.slice Al pl.length cl] 25)).alloc (.cells #[.slice Ap ps0.length cp] 28)).alloc (.cells #[.func (.func 133) #[] #[.pointer (some ⟨go, 0, none⟩), .pointer (some ⟨gF, 0, none⟩)]] 145)).alloc (.cells #[] 3)).alloc (.cells #[] 3)).alloc (.cells #[.slice (some ⟨w.heap.size + 1 + 1 + 1, 0, none⟩) 0 0] 28)).alloc (.cells #[.slice (some ⟨w.heap.size + 1 + 1 + 1 + 1, 0, none⟩) 0 0] 28) = W at *
 generalize w.heap.size + 1 + 1 + 1 + 1 + 1 + 1 = gc at *
 generalize w.heap.size + 1 + 1 + 1 + 1 + 1 = gf at *
 generalize w.heap.size + 1 + 1 + 1 + 1 = x2 at *
 generalize w.heap.size + 1 + 1 + 1 = x1 at *
 generalize w.heap.size + 1 + 1 = gk at *
 generalize w.heap.size + 1 = gp at *
 generalize w.heap.size = gl at *
 have l0 := (hC.at_ (gl, .slice Al pl.length cl) (by simp) 0 _ rfl).1
 go_wp2_with fail
 go_loopw [9, 15] (fun _ i wr => ∃ (k : Nat) (vf : Value), k ≤ pl.length ∧ i = .int .i64 k ∧ CP w0 wr gf [(gl, .slice Al pl.length cl), (gp, .slice Ap ps0.length cp), (gk, .func (.func 133) #[] #[.pointer (some ⟨go, 0, none⟩), .pointer (some ⟨gF, 0, none⟩)]), (gc, .slice (some ⟨x2, 0, none⟩) 0 0), (go, vo), (gF, .bool false)] (.slice (some ⟨x2, 0, none⟩) 0 0) vf ((pl.map (·.2)).take k)) (fun _ i _ => pl.length - (intOf i).toNat)
 case atStart => exact ⟨0, _, Nat.zero_le _, rfl, hC⟩
 case round =>
  obtain ⟨k, vf, hk, rfl, hCr⟩ := hrel
  clear hC l0
  by_cases hlt : k < pl.length
  ·have hlr := hl.below hCr.below
   obtain ⟨g, off, u, rfl, hg, k0, k1, hru⟩ := hlr.cell hlt
   obtain ⟨Au, cu, rfl, _, _⟩ := hru.form
   have Hsn : Hid ((pl.map (·.2)).take (k + 1) = (pl.map (·.2)).take k ++ [pl[k].2]) := by
    show _ = _
    rw [List.take_add_one, List.getElem?_map, List.getElem?_eq_getElem hlt]; rfl
   have hfl : ((pl.map (·.2)).take k).length ≤ 6 := by simp; omega
   generalize (pl.map (·.2)).take k = fr at *
   generalize pl[k] = q at *
   obtain ⟨r, f⟩ := q
   simp only at k0 k1 hru Hsn
   obtain ⟨Af, cf, rfl, _, _⟩ := (RdS.of_own hCr.own).form
   have hal : Below wr.heap.size wr (wr.alloc (.cells #[.slice Au r.length cu, .int .i64 f] 39)) := (Below.refl _ _).alloc (Nat.le_refl _) _
   have Lq : Loc (wr.alloc (.cells #[.slice Au r.length cu, .int .i64 f] 39)) wr.heap.size [.slice Au r.length cu, .int .i64 f] := Loc.new wr #[.slice Au r.length cu, .int .i64 f] 39
   have hC1 := hCr.keep hal
   go_upto_region 5 with (fail)
   obtain ⟨gq, hgq⟩ : ∃ g, wr.heap.size = g := ⟨_, rfl⟩
   rw [hgq] at Lq
   clear k0 k1 hlr hru hCr
   generalize (wr.alloc (.cells #[.slice Au r.length cu, .int .i64 f] 39)) = W1 at *
   rw [hgq]
   clear hal hgq hg
   have b0 := (hC1.box 0 _ rfl).1
   have q1 := (Lq 1 _ rfl).1
   have hal : Below W1.heap.size W1 (W1.alloc (.cells #[.int .i64 f] 3)) := (Below.refl _ _).alloc (Nat.le_refl _) _
   have hC2 := hC1.keep hal
   have hZ2 := hC2.below.size
   go_wp2_with (at_builtin; refine wpList_appendB _ rfl (.tmp 19) (.tmp 22) _ rfl w0.heap.size 3 i0 _ 1 8 Tryz.underlying28 hi0 hz0 hz1 hz2 rfl (by omega) _ fr.length (fr.flatMap cInt) rfl hC2.own _ 1 [.int .i64 f] rfl (rdS_new W1 #[.int .i64 f] _ 1 1 rfl (by simp [maxLen])) (by simp [Value.oneCell']) (by simp [maxLen]; omega) (by omega) hZ2 ?_; intro v5 w5 own5 gr5 at5; obtain ⟨Lc5, HG5⟩ := hC2.grow gr5 at5; have b5 := (Lc5 0 _ rfl).1; have f5 := (Lc5 0 _ rfl).2; obtain ⟨A5, c5, rfl, _, _⟩ := (RdS.of_own own5).form; have HC5 := Lib.hid (HG5 (fr ++ [f]) (by rw [List.length_append, List.flatMap_append]; exact own5)))
   go_roundw
   case rel => exact ⟨k + 1, _, by omega, by go_num, by rw [Hsn.out]; exact HC5.out⟩
   case measure => simp [intOf]; omega
  ·obtain rfl : k = pl.length := by omega
   rw [List.take_of_length_le (by simp)] at hCr
   go_upto_region 8 with (fail)
   have hal : Below wr.heap.size wr (wr.alloc (.cells #[.nilFunc] 181)) := (Below.refl _ _).alloc (Nat.le_refl _) _
   have Lr : Loc (wr.alloc (.cells #[.nilFunc] 181)) wr.heap.size [.nilFunc] := Loc.new wr #[.nilFunc] 181
   have hC1 := hCr.keep hal
   have hzr := hCr.below.size
   have hlt1 : ∀ b ∈ gf :: [gl, gp, gk, gc, go, gF], b < wr.heap.size := fun b hb => by
    rcases List.mem_cons.1 hb with rfl | hb
    ·exact loc_lt hCr.box
    ·obtain ⟨p, hp, e⟩ := List.mem_map.1 (show b ∈ [(gl, .slice Al pl.length cl), (gp, .slice Ap ps0.length cp), (gk, .func (.func 133) #[] #[.pointer (some ⟨go, 0, none⟩), .pointer (some ⟨gF, 0, none⟩)]), (gc, .slice (some ⟨x2, 0, none⟩) 0 0), (go, vo), (gF, .bool false)].map (·.1) from hb)
     rw [← e]; exact loc_lt (hCr.at_ p hp)
   have hvl1 : ∀ b ∈ vf.ownBlock.toList, b < wr.heap.size := fun b hb => (own_lt hCr.own b hb).2
   have hx2 : x2 < wr.heap.size := (own_lt hCr.emp x2 (by simp [Value.ownBlock])).2
   obtain ⟨gr, hgr⟩ : ∃ g, wr.heap.size = g := ⟨_, rfl⟩
   rw [hgr] at Lr hlt1 hvl1 hx2 hzr
   clear hCr
   generalize (wr.alloc (.cells #[.nilFunc] 181)) = W1 at *
   rw [hgr]
   clear hal hgr
   have r0 := (Lr 0 _ rfl).1
   have r1 := (Lr 0 _ rfl).2
   have hsf := fun (a : Addr) (f : Fn) (x y : Array Value) (m : Mode) (w : World) => run_store Tryz.prog w a (.func f x y) m rfl
   have hchR : Chg [gr] W1 (W1.setCell ⟨gr, 0, none⟩ (.func (.func 177) #[] #[.pointer (some ⟨gc, 0, none⟩), .pointer (some ⟨gp, 0, none⟩), .pointer (some ⟨gk, 0, none⟩), .pointer (some ⟨gl, 0, none⟩), .pointer (some ⟨gf, 0, none⟩), .pointer (some ⟨gr, 0, none⟩)])) := chg_set (Chg.refl _ _) (by simp)
   have hno : ∀ b ∈ gf :: [gl, gp, gk, gc, go, gF], b ∉ [gr] := fun b hb hb' => by have := hlt1 b hb; rw [List.mem_singleton.1 hb'] at this; omega
   have hCS : CS w0 (W1.setCell ⟨gr, 0, none⟩ (.func (.func 177) #[] #[.pointer (some ⟨gc, 0, none⟩), .pointer (some ⟨gp, 0, none⟩), .pointer (some ⟨gk, 0, none⟩), .pointer (some ⟨gl, 0, none⟩), .pointer (some ⟨gf, 0, none⟩), .pointer (some ⟨gr, 0, none⟩)])) gc gp gk gl gf gr go gF (.slice Ap ps0.length cp) (.func (.func 133) #[] #[.pointer (some ⟨go, 0, none⟩), .pointer (some ⟨gF, 0, none⟩)]) (.slice Al pl.length cl) vf (.func (.func 177) #[] #[.pointer (some ⟨gc, 0, none⟩), .pointer (some ⟨gp, 0, none⟩), .pointer (some ⟨gk, 0, none⟩), .pointer (some ⟨gl, 0, none⟩), .pointer (some ⟨gf, 0, none⟩), .pointer (some ⟨gr, 0, none⟩)]) [] (pl.map (·.2)) false := by
    have hnd := hC1.nd
    have hlg : gl < gr ∧ gp < gr ∧ gk < gr ∧ gc < gr ∧ go < gr ∧ gF < gr ∧ gf < gr := ⟨hlt1 _ (by simp), hlt1 _ (by simp), hlt1 _ (by simp), hlt1 _ (by simp), hlt1 _ (by simp), hlt1 _ (by simp), hlt1 _ (by simp)⟩
    simp only [List.map_cons, List.map_nil, List.nodup_cons, List.mem_cons, List.not_mem_nil, or_false, not_or] at hnd
    refine ⟨⟨fun b hb => ?_, ?_, hC1.below.setCell hzr _, ((hC1.at_ (gp, _) (by simp)).chg hchR (hno _ (by simp))), ((hC1.at_ (gk, _) (by simp)).chg hchR (hno _ (by simp))), ((hC1.at_ (gl, _) (by simp)).chg hchR (hno _ (by simp))), hC1.box.chg hchR (hno _ (by simp)), Lr.set (i := 0) (v := .nilFunc) rfl, ⟨vo, (hC1.at_ (go, vo) (by simp)).chg hchR (hno _ (by simp))⟩, (hC1.at_ (gF, .bool false) (by simp)).chg hchR (hno _ (by simp)), own_chg hC1.own hchR (fun b hb hb' => by have := hvl1 b hb; rw [List.mem_singleton.1 hb'] at this; omega), fun b hb => ?_⟩, .slice (some ⟨x2, 0, none⟩) 0 0, (hC1.at_ (gc, .slice (some ⟨x2, 0, none⟩) 0 0) (by simp)).chg hchR (hno _ (by simp)), own_chg hC1.emp hchR (fun b hb hb' => by simp [Value.ownBlock] at hb; have := List.mem_singleton.1 hb'; omega), fun b hb => ?_⟩
    ·by_cases hbr : b = gr
     ·rw [hbr]; exact hzr
     ·exact hC1.base b (by simp at hb ⊢; omega)
    ·simp only [BX, List.nodup_cons, List.mem_cons, List.not_mem_nil, or_false, not_or, List.nodup_nil, and_true, not_false_eq_true]
     omega
    ·have h1 := hC1.ap b hb
     have h2 := hvl1 b hb
     simp at h1 ⊢
     omega
    ·have h1 := (hC1.ap2 b hb).1
     have h2 := (hC1.ap2 b hb).2
     have h3 : b < gr := by simp [Value.ownBlock] at hb; omega
     rw [List.mem_append]
     rintro (h4 | h4)
     ·simp at h1 h4; omega
     ·exact h2 h4
   have b3 := (hCS.rest.br 0 _ rfl).1
   clear hC1 Lr hlt1 hvl1 hno
   go_upto_region 9 with (fail)
   clear hsf r0 r1
   generalize W1.setCell ⟨gr, 0, none⟩ (.func (.func 177) #[] #[.pointer (some ⟨gc, 0, none⟩), .pointer (some ⟨gp, 0, none⟩), .pointer (some ⟨gk, 0, none⟩), .pointer (some ⟨gl, 0, none⟩), .pointer (some ⟨gf, 0, none⟩), .pointer (some ⟨gr, 0, none⟩)]) = W2 at *
   have hHR := castR_any w0 _ _ _ ps0 pl hp hl hp7 hl6 gc gp gk gl gf gr go gF ps0 [] (pl.map (·.2)) (zeroL pl.length) W2 (show Hid (_ ∧ _) from ⟨rfl, Nat.zero_le _⟩) (Hands.start hfr) hCS
   clear hCS
   obtain ⟨cb, hcb⟩ : ∃ cb, canS pl ps0 (zeroL pl.length) = cb := ⟨_, rfl⟩
   rw [hcb] at hHR
   have HCB := Lib.hid hcb
   clear hcb
   go_wp2_with fail
   refine hHR.mono ?_
   rintro e W3 ⟨rfl, hC3⟩
   go_wp2_with fail
   first | go_end0 | go_ret
   exact ⟨rfl, hC3.rest.bo, by rw [HCB.out]; exact hC3.rest.bF, hC3.rest.below⟩
theorem arePuppets_any (v : Value) (l : List Int) (w : World) (h : RdL cInt 1 w v l) :
  Calls Tryz.prog 131 #[v] w fun e w' => e = .returned (.bool (strictB l 0 6)) ∧ Below w.heap.size w w' := by
 obtain ⟨A, c, rfl, h1, h2⟩ := h.form
 have hC := isStrict_any (.slice A l.length c) l 0 6 w h
 generalize strictB l 0 6 = b at *
 go_enter Tryz.func131, Tryz.ntmps131
 go_wp2_with fail
 refine hC.mono ?_
 rintro e w1 ⟨rfl, hb⟩
 go_wp2_with fail
 go_ret
 exact ⟨rfl, hb⟩
set_option maxHeartbeats 4000000 in
set_option maxRecDepth 100000 in
theorem implFirstCasting_any (v1 v2 : Value) (ps : List Int) (pl : List RPl) (w : World) (hl : RdPls w v1 pl) (hp : RdL cInt 1 w v2 ps) :
  Calls Tryz.prog 84 #[v1, v2] w (RetCast (canF pl ps) w) := by
 have hl0 := hl
 have hp0 := hp
 obtain ⟨Al, cl, rfl, _, _⟩ := hl.form
 obtain ⟨Ap, cp, rfl, _, _⟩ := hp.form
 go_enter Tryz.func84, Tryz.ntmps84
 go_wp2_with fail
 refine twoB (implPlayersOk_any _ pl _ hl) (fun w1 hq hb1 => ?_) (fun w1 hq hb1 => ?_)
 ·have hp1 := hp.below hb1
  have hl1 := hl.below hb1
  obtain ⟨h6, h1, _⟩ := playersB_sz hq.out
  have Hfr := Lib.hid (playersB_fr hq.out)
  go_wp2_with fail
  refine twoB (arePuppets_any _ ps _ hp1) (fun w2 hs hb2 => ?_) (fun w2 hs hb2 => ?_)
  ·have h7 := strict_len (m := 6) hs.out
   have HF := Lib.hid (canF_t hq.out hs.out)
   have hb02 := bl_trans hb1 hb2
   have ha : Below w2.heap.size w2 ((w2.alloc (.cells #[.slice none 0 0] 28)).alloc (.cells #[.bool false] 4)) := by (repeat' (with_reducible first | exact Below.refl _ _ | assumption | refine qS ?_ _ | refine qA ?_ _ | refine qD ?_ | refine qN ?_ _))
   have La : Loc ((w2.alloc (.cells #[.slice none 0 0] 28)).alloc (.cells #[.bool false] 4)) w2.heap.size [.slice none 0 0] := (Loc.new w2 #[.slice none 0 0] 28).alloc _
   have Lb : Loc ((w2.alloc (.cells #[.slice none 0 0] 28)).alloc (.cells #[.bool false] 4)) (w2.heap.size + 1) [.bool false] := by have := Loc.new (w2.alloc (.cells #[.slice none 0 0] 28)) #[.bool false] 4; simpa using this
   have hb03 := bl_trans hb02 ha
   have hz := hb02.size
   have hC := castings_any w ((w2.alloc (.cells #[.slice none 0 0] 28)).alloc (.cells #[.bool false] 4)) _ _ ps pl hp0 hl0 (by omega) h6 Hfr.out w2.heap.size (w2.heap.size + 1) hb03 hz (by omega) (by omega) _ La Lb
   clear ha La Lb hb1 hb2 hp1 hl1 hp hl
   obtain ⟨cb, hcb⟩ : ∃ cb, canS pl ps (zeroL pl.length) = cb := ⟨_, rfl⟩
   rw [hcb] at hC HF
   clear hcb
   go_wp2_with fail
   refine hC.mono ?_
   rintro e w3 ⟨rfl, ⟨vo, Lo⟩, LF, hb⟩
   have b0 := (Lo 0 _ rfl).1
   have b1 := (LF 0 _ rfl).1
   clear hC
   go_wp2_with fail
   go_quiet (fail)
   rename_i nq
   go_wp2_with fail
   go_ret2
   rw [HF.out]
   exact ⟨_, rfl, below_drewN hb _⟩
  ·have HF := Lib.hid (canF_f2 (pl := pl) hs.out)
   have hb02 := bl_trans hb1 hb2
   go_wp2_with fail
   go_ret2
   rw [HF.out]
   exact ⟨_, rfl, hb02⟩
 ·have HF := Lib.hid (canF_f1 (ps := ps) hq.out)
  go_wp2_with fail
  go_ret2
  rw [HF.out]
  exact ⟨_, rfl, hb1⟩
set_option maxHeartbeats 4000000 in
theorem canPlay_any (v1 v2 : Value) (ps : List Int) (pl : List RPl) (w : World) (hl : RdPls w v1 pl) (hp : RdL cInt 1 w v2 ps) :
  Calls Tryz.prog 44 #[v1, v2] w fun e w' => e = .returned (.bool (canF pl ps)) ∧ Below w.heap.size w w' := by
 have hC := implFirstCasting_any v1 v2 ps pl w hl hp
 obtain ⟨Al, cl, rfl, _, _⟩ := hl.form
 obtain ⟨Ap, cp, rfl, _, _⟩ := hp.form
 generalize canF pl ps = cb at *
 go_enter Tryz.func44, Tryz.ntmps44
 go_wp2_with fail
 refine hC.mono ?_
 rintro e w1 ⟨vo, rfl, hb⟩
 go_wp2_with fail
 go_ret
 exact ⟨rfl, hb⟩
open Go.RowKit
open Go.RowKit
end Go.Proofs.YtdhmhgjjppeodaaGreatDoor
