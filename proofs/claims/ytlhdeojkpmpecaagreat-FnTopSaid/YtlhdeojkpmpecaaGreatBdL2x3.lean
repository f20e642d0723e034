/- Several texts in one: Castings of the program: castings, FirstCasting, canPlay. Written by a program (gen_l1.py). Castings of the reference: the search, FirstCasting, l17Can. Written by a program (gen_l1.py). Castings of the reference: FirstCasting, l17Can. Written by a program (gen_l1.py). -/
import Derived.Deep.DeepCutAuto
import Derived.Deep.QuietTactic
import Derived.BigQuiet
import Derived.IntWalk
import Derived.Test.YtlhdeojkpmpecaaGreatBdT4x10
import Derived.Test.YtlhdeojkpmpecaaGreatBdK3x9
import Derived.Test.YtlhdeojkpmpecaaGreatBdB3x10
import Derived.Test.YtlhdeojkpmpecaaGreatBdM7x3
import Derived.Test.YtlhdeojkpmpecaaGreatBdM5x6
import Derived.Test.YtlhdeojkpmpecaaGreatBdW1x3
namespace Go.Proofs.YtlhdeojkpmpecaaGreat
open Go.RowKit
structure CP (w0 w : World) (gx : Nat) (bxs : List (Nat × Value)) (vc vf : Value) (fr : List Int) : Prop where
 base : ∀ b ∈ gx :: bxs.map (·.1), w0.heap.size ≤ b
 nd : (gx :: bxs.map (·.1)).Nodup
 below : Below w0.heap.size w0 w
 at_ : ∀ p ∈ bxs, Loc w p.1 [p.2]
 box : Loc w gx [vf]
 own : w.ownsRow w0.heap.size 3 1 vf fr.length (fr.flatMap cInt)
 ap : ∀ b ∈ vf.ownBlock.toList, b ∉ gx :: bxs.map (·.1)
 emp : w.ownsRow w0.heap.size 3 1 vc 0 []
 ap2 : ∀ b ∈ vc.ownBlock.toList, b ∉ gx :: bxs.map (·.1) ∧ b ∉ vf.ownBlock.toList
section
variable {w0 w w' : World} {gx : Nat} {bxs : List (Nat × Value)} {vc vf : Value} {fr : List Int}
theorem CP.keep (h : CP w0 w gx bxs vc vf fr) (hb : Below w.heap.size w w') : CP w0 w' gx bxs vc vf fr :=
 ⟨h.base, h.nd, h.below.trans (hb.mono h.below.size), fun p hp => (h.at_ p hp).below hb, h.box.below hb, own_below h.own hb, h.ap, own_below h.emp hb, h.ap2⟩
theorem CP.grow (h : CP w0 w gx bxs vc vf fr) (hg : w.grownBy w' vf.ownBlock) {v' : Value} (hat : v'.ownBlock = vf.ownBlock ∨ v'.ownBlock = some w.heap.size) :
  Loc w' gx [vf] ∧ ∀ f', w'.ownsRow w0.heap.size 3 1 v' f'.length (List.flatMap cInt f') → CP w0 (w'.setCell ⟨gx, 0, none⟩ v') gx bxs vc v' f' := by
 have hch := Chg.of_grown hg
 have hn : ∀ b ∈ gx :: bxs.map (·.1), b ∉ vf.ownBlock.toList := fun b hb hb' => h.ap b hb' hb
 have hlt : ∀ b ∈ gx :: bxs.map (·.1), b < w.heap.size := fun b hb => by
  rcases List.mem_cons.1 hb with rfl | hb
  ·exact loc_lt h.box
  ·obtain ⟨p, hp, rfl⟩ := List.mem_map.1 hb
   exact loc_lt (h.at_ p hp)
 have hap' : ∀ b ∈ v'.ownBlock.toList, b ∉ gx :: bxs.map (·.1) := fun b hb hb' => by
  rcases hat with e | e
  ·rw [e] at hb; exact h.ap b hb hb'
  ·rw [e] at hb
   have e2 : b = w.heap.size := by simpa using hb
   have := hlt b hb'
   omega
 have hL' := h.box.chg hch (hn _ (by simp))
 have hb : Below w0.heap.size w0 w' := Below.chg h.below hch h.below.size (fun b hb => (own_lt h.own b hb).1)
 refine ⟨hL', fun f' hf' => ?_⟩
 have hset : Chg [gx] w' (w'.setCell ⟨gx, 0, none⟩ v') := chg_set (Chg.refl _ _) (by simp)
 have h1 : ∀ p ∈ bxs, p.1 ∉ [gx] := fun p hp hb' => by
  have := h.nd
  rw [List.nodup_cons] at this
  have e := List.mem_singleton.1 hb'
  exact this.1 (e ▸ List.mem_map.2 ⟨p, hp, rfl⟩)
 refine ⟨h.base, h.nd, hb.setCell (h.base gx (by simp)) _, fun p hp => ((h.at_ p hp).chg hch (hn _ (List.mem_cons_of_mem _ (List.mem_map.2 ⟨p, hp, rfl⟩)))).chg hset (h1 p hp), hL'.set (i := 0) (v := vf) rfl, own_chg hf' hset (fun b hb hb' => hap' b hb (by rw [List.mem_singleton.1 hb']; simp)), hap',
  own_chg (own_chg h.emp hch (fun b hb => (h.ap2 b hb).2)) hset (fun b hb hb' => (h.ap2 b hb).1 (by rw [List.mem_singleton.1 hb']; simp)), fun b hb => ⟨(h.ap2 b hb).1, fun hb' => ?_⟩⟩
 rcases hat with e | e
 ·rw [e] at hb'; exact (h.ap2 b hb).2 hb'
 ·rw [e] at hb'
  have e2 : b = w.heap.size := by simpa using hb'
  have := (own_lt h.emp b hb).2
  omega
end
set_option maxHeartbeats 8000000 in
set_option maxRecDepth 100000 in
theorem castings_any (w0 w : World) (vp vl : Value) (ps0 : List Int) (pl : List RPl) (hp : RdL cInt 1 w0 vp ps0) (hl : RdPls w0 vl pl) (hp7 : ps0.length ≤ 7) (hl6 : pl.length ≤ 6) (hfr : ∀ r ∈ pl, 0 ≤ r.2 ∧ r.2 ≤ 2) (go gF : Nat) (hb : Below w0.heap.size w0 w) (hgo : w0.heap.size ≤ go) (hgF : w0.heap.size ≤ gF) (hne : go ≠ gF) (vo : Value) (Lo : Loc w go [vo]) (LF : Loc w gF [.bool false]) :
  Calls Tryz.prog 171 #[vl, vp, .func (.func 172) #[] #[.pointer (some ⟨go, 0, none⟩), .pointer (some ⟨gF, 0, none⟩)]] w fun e w' => e = .returned (.tuple #[]) ∧ (∃ vo, Loc w' go [vo]) ∧ Loc w' gF [.bool (canS pl ps0 (zeroL pl.length))] ∧ Below w0.heap.size w0 w' := by
 obtain ⟨i0, hi0, hz0, hz1, hz2⟩ := info_parts infoInt
 have hpw := hp.below hb
 have hlw := hl.below hb
 obtain ⟨Ap, cp, rfl, _, _⟩ := hpw.form
 obtain ⟨Al, cl, rfl, _, _⟩ := hlw.form
 have hgol := loc_lt Lo
 have hgFl := loc_lt LF
 have hz := hb.size
 have a0 : Below w.heap.size w (w.alloc (.cells #[.slice Al pl.length cl] 33)) := (Below.refl _ _).alloc (Nat.le_refl _) _
 have hbW : Below w.heap.size w (((((((w.alloc (.cells #[.slice Al pl.length cl] 33)).alloc (.cells #[.slice Ap ps0.length cp] 26)).alloc (.cells #[.func (.func 172) #[] #[.pointer (some ⟨go, 0, none⟩), .pointer (some ⟨gF, 0, none⟩)]] 103)).alloc (.cells #[] 3)).alloc (.cells #[] 3)).alloc (.cells #[.slice (some ⟨w.heap.size + 1 + 1 + 1, 0, none⟩) 0 0] 26)).alloc (.cells #[.slice (some ⟨w.heap.size + 1 + 1 + 1 + 1, 0, none⟩) 0 0] 26)) := by (repeat' (with_reducible first | exact Below.refl _ _ | assumption | refine qS ?_ _ | refine qA ?_ _ | refine qD ?_ | refine qN ?_ _))
 have L1 : Loc (((((((w.alloc (.cells #[.slice Al pl.length cl] 33)).alloc (.cells #[.slice Ap ps0.length cp] 26)).alloc (.cells #[.func (.func 172) #[] #[.pointer (some ⟨go, 0, none⟩), .pointer (some ⟨gF, 0, none⟩)]] 103)).alloc (.cells #[] 3)).alloc (.cells #[] 3)).alloc (.cells #[.slice (some ⟨w.heap.size + 1 + 1 + 1, 0, none⟩) 0 0] 26)).alloc (.cells #[.slice (some ⟨w.heap.size + 1 + 1 + 1 + 1, 0, none⟩) 0 0] 26)) w.heap.size [.slice Al pl.length cl] := (((((((Loc.new w #[.slice Al pl.length cl] 33).alloc _).alloc _).alloc _).alloc _).alloc _).alloc _)
 have L2 : Loc (((((((w.alloc (.cells #[.slice Al pl.length cl] 33)).alloc (.cells #[.slice Ap ps0.length cp] 26)).alloc (.cells #[.func (.func 172) #[] #[.pointer (some ⟨go, 0, none⟩), .pointer (some ⟨gF, 0, none⟩)]] 103)).alloc (.cells #[] 3)).alloc (.cells #[] 3)).alloc (.cells #[.slice (some ⟨w.heap.size + 1 + 1 + 1, 0, none⟩) 0 0] 26)).alloc (.cells #[.slice (some ⟨w.heap.size + 1 + 1 + 1 + 1, 0, none⟩) 0 0] 26)) (w.heap.size + 1) [.slice Ap ps0.length cp] := by have := ((((((Loc.new (w.alloc (.cells #[.slice Al pl.length cl] 33)) #[.slice Ap ps0.length cp] 26).alloc (.cells #[.func (.func 172) #[] #[.pointer (some ⟨go, 0, none⟩), .pointer (some ⟨gF, 0, none⟩)]] 103)).alloc (.cells #[] 3)).alloc (.cells #[] 3)).alloc (.cells #[.slice (some ⟨w.heap.size + 1 + 1 + 1, 0, none⟩) 0 0] 26)).alloc (.cells #[.slice (some ⟨w.heap.size + 1 + 1 + 1 + 1, 0, none⟩) 0 0] 26)); simpa using this
 have L3 : Loc (((((((w.alloc (.cells #[.slice Al pl.length cl] 33)).alloc (.cells #[.slice Ap ps0.length cp] 26)).alloc (.cells #[.func (.func 172) #[] #[.pointer (some ⟨go, 0, none⟩), .pointer (some ⟨gF, 0, none⟩)]] 103)).alloc (.cells #[] 3)).alloc (.cells #[] 3)).alloc (.cells #[.slice (some ⟨w.heap.size + 1 + 1 + 1, 0, none⟩) 0 0] 26)).alloc (.cells #[.slice (some ⟨w.heap.size + 1 + 1 + 1 + 1, 0, none⟩) 0 0] 26)) (w.heap.size + 1 + 1) [.func (.func 172) #[] #[.pointer (some ⟨go, 0, none⟩), .pointer (some ⟨gF, 0, none⟩)]] := by have := (((((Loc.new ((w.alloc (.cells #[.slice Al pl.length cl] 33)).alloc (.cells #[.slice Ap ps0.length cp] 26)) #[.func (.func 172) #[] #[.pointer (some ⟨go, 0, none⟩), .pointer (some ⟨gF, 0, none⟩)]] 103).alloc (.cells #[] 3)).alloc (.cells #[] 3)).alloc (.cells #[.slice (some ⟨w.heap.size + 1 + 1 + 1, 0, none⟩) 0 0] 26)).alloc (.cells #[.slice (some ⟨w.heap.size + 1 + 1 + 1 + 1, 0, none⟩) 0 0] 26)); simpa using this
 have L6 : Loc (((((((w.alloc (.cells #[.slice Al pl.length cl] 33)).alloc (.cells #[.slice Ap ps0.length cp] 26)).alloc (.cells #[.func (.func 172) #[] #[.pointer (some ⟨go, 0, none⟩), .pointer (some ⟨gF, 0, none⟩)]] 103)).alloc (.cells #[] 3)).alloc (.cells #[] 3)).alloc (.cells #[.slice (some ⟨w.heap.size + 1 + 1 + 1, 0, none⟩) 0 0] 26)).alloc (.cells #[.slice (some ⟨w.heap.size + 1 + 1 + 1 + 1, 0, none⟩) 0 0] 26)) (w.heap.size + 1 + 1 + 1 + 1 + 1) [.slice (some ⟨w.heap.size + 1 + 1 + 1, 0, none⟩) 0 0] := by have := ((Loc.new (((((w.alloc (.cells #[.slice Al pl.length cl] 33)).alloc (.cells #[.slice Ap ps0.length cp] 26)).alloc (.cells #[.func (.func 172) #[] #[.pointer (some ⟨go, 0, none⟩), .pointer (some ⟨gF, 0, none⟩)]] 103)).alloc (.cells #[] 3)).alloc (.cells #[] 3)) #[.slice (some ⟨w.heap.size + 1 + 1 + 1, 0, none⟩) 0 0] 26).alloc (.cells #[.slice (some ⟨w.heap.size + 1 + 1 + 1 + 1, 0, none⟩) 0 0] 26)); simpa using this
 have L7 : Loc (((((((w.alloc (.cells #[.slice Al pl.length cl] 33)).alloc (.cells #[.slice Ap ps0.length cp] 26)).alloc (.cells #[.func (.func 172) #[] #[.pointer (some ⟨go, 0, none⟩), .pointer (some ⟨gF, 0, none⟩)]] 103)).alloc (.cells #[] 3)).alloc (.cells #[] 3)).alloc (.cells #[.slice (some ⟨w.heap.size + 1 + 1 + 1, 0, none⟩) 0 0] 26)).alloc (.cells #[.slice (some ⟨w.heap.size + 1 + 1 + 1 + 1, 0, none⟩) 0 0] 26)) (w.heap.size + 1 + 1 + 1 + 1 + 1 + 1) [.slice (some ⟨w.heap.size + 1 + 1 + 1 + 1, 0, none⟩) 0 0] := by have := (Loc.new ((((((w.alloc (.cells #[.slice Al pl.length cl] 33)).alloc (.cells #[.slice Ap ps0.length cp] 26)).alloc (.cells #[.func (.func 172) #[] #[.pointer (some ⟨go, 0, none⟩), .pointer (some ⟨gF, 0, none⟩)]] 103)).alloc (.cells #[] 3)).alloc (.cells #[] 3)).alloc (.cells #[.slice (some ⟨w.heap.size + 1 + 1 + 1, 0, none⟩) 0 0] 26)) #[.slice (some ⟨w.heap.size + 1 + 1 + 1 + 1, 0, none⟩) 0 0] 26); simpa using this
 have O1 : (((((((w.alloc (.cells #[.slice Al pl.length cl] 33)).alloc (.cells #[.slice Ap ps0.length cp] 26)).alloc (.cells #[.func (.func 172) #[] #[.pointer (some ⟨go, 0, none⟩), .pointer (some ⟨gF, 0, none⟩)]] 103)).alloc (.cells #[] 3)).alloc (.cells #[] 3)).alloc (.cells #[.slice (some ⟨w.heap.size + 1 + 1 + 1, 0, none⟩) 0 0] 26)).alloc (.cells #[.slice (some ⟨w.heap.size + 1 + 1 + 1 + 1, 0, none⟩) 0 0] 26)).ownsRow w0.heap.size 3 1 (.slice (some ⟨w.heap.size + 1 + 1 + 1, 0, none⟩) 0 0) 0 [] := by
  have := (((World.ownsRow_made (size := 1) (e := 3) (((w.alloc (.cells #[.slice Al pl.length cl] 33)).alloc (.cells #[.slice Ap ps0.length cp] 26)).alloc (.cells #[.func (.func 172) #[] #[.pointer (some ⟨go, 0, none⟩), .pointer (some ⟨gF, 0, none⟩)]] 103)) #[] 0 (Nat.le_refl _) (by simp [maxLen]) rfl).alloc (.cells #[] 3)).alloc (.cells #[.slice (some ⟨w.heap.size + 1 + 1 + 1, 0, none⟩) 0 0] 26)).alloc (.cells #[.slice (some ⟨w.heap.size + 1 + 1 + 1 + 1, 0, none⟩) 0 0] 26)
  exact own_mono (by simpa using this) (by omega)
 have O2 : (((((((w.alloc (.cells #[.slice Al pl.length cl] 33)).alloc (.cells #[.slice Ap ps0.length cp] 26)).alloc (.cells #[.func (.func 172) #[] #[.pointer (some ⟨go, 0, none⟩), .pointer (some ⟨gF, 0, none⟩)]] 103)).alloc (.cells #[] 3)).alloc (.cells #[] 3)).alloc (.cells #[.slice (some ⟨w.heap.size + 1 + 1 + 1, 0, none⟩) 0 0] 26)).alloc (.cells #[.slice (some ⟨w.heap.size + 1 + 1 + 1 + 1, 0, none⟩) 0 0] 26)).ownsRow w0.heap.size 3 1 (.slice (some ⟨w.heap.size + 1 + 1 + 1 + 1, 0, none⟩) 0 0) 0 [] := by
  have := ((World.ownsRow_made (size := 1) (e := 3) ((((w.alloc (.cells #[.slice Al pl.length cl] 33)).alloc (.cells #[.slice Ap ps0.length cp] 26)).alloc (.cells #[.func (.func 172) #[] #[.pointer (some ⟨go, 0, none⟩), .pointer (some ⟨gF, 0, none⟩)]] 103)).alloc (.cells #[] 3)) #[] 0 (Nat.le_refl _) (by simp [maxLen]) rfl).alloc (.cells #[.slice (some ⟨w.heap.size + 1 + 1 + 1, 0, none⟩) 0 0] 26)).alloc (.cells #[.slice (some ⟨w.heap.size + 1 + 1 + 1 + 1, 0, none⟩) 0 0] 26)
  exact own_mono (by simpa using this) (by omega)
 have hC : CP w0 (((((((w.alloc (.cells #[.slice Al pl.length cl] 33)).alloc (.cells #[.slice Ap ps0.length cp] 26)).alloc (.cells #[.func (.func 172) #[] #[.pointer (some ⟨go, 0, none⟩), .pointer (some ⟨gF, 0, none⟩)]] 103)).alloc (.cells #[] 3)).alloc (.cells #[] 3)).alloc (.cells #[.slice (some ⟨w.heap.size + 1 + 1 + 1, 0, none⟩) 0 0] 26)).alloc (.cells #[.slice (some ⟨w.heap.size + 1 + 1 + 1 + 1, 0, none⟩) 0 0] 26)) (w.heap.size + 1 + 1 + 1 + 1 + 1) [(w.heap.size, .slice Al pl.length cl), (w.heap.size + 1, .slice Ap ps0.length cp), (w.heap.size + 1 + 1, .func (.func 172) #[] #[.pointer (some ⟨go, 0, none⟩), .pointer (some ⟨gF, 0, none⟩)]), (w.heap.size + 1 + 1 + 1 + 1 + 1 + 1, .slice (some ⟨w.heap.size + 1 + 1 + 1 + 1, 0, none⟩) 0 0), (go, vo), (gF, .bool false)] (.slice (some ⟨w.heap.size + 1 + 1 + 1 + 1, 0, none⟩) 0 0) (.slice (some ⟨w.heap.size + 1 + 1 + 1, 0, none⟩) 0 0) [] := by
  refine ⟨fun b hb => ?_, by simp; omega, hb.trans (hbW.mono hz), fun p hp => ?_, L6, O1, fun b hb => ?_, O2, fun b hb => ?_⟩
  ·simp at hb; omega
  ·simp only [List.mem_cons, List.not_mem_nil, or_false] at hp
   rcases hp with rfl | rfl | rfl | rfl | rfl | rfl
   ·exact L1
   ·exact L2
   ·exact L3
   ·exact L7
   ·exact Lo.below hbW
   ·exact LF.below hbW
  ·simp [Value.ownBlock] at hb; subst hb; simp; omega
  ·simp [Value.ownBlock] at hb; subst hb; simp [Value.ownBlock]; omega
 clear L1 L2 L3 L6 L7 O1 O2 hbW a0
 go_enter Tryz.func171, Tryz.ntmps171
 go_upto_region 2 with (fail)
 generalize ((((((w.alloc (.cells #[.slice Al pl.length cl] 33)).alloc (.cells #[.slice Ap ps0.length cp] 26)).alloc (.cells #[.func (.func 172) #[] #[.pointer (some ⟨go, 0, none⟩), .pointer (some ⟨gF, 0, none⟩)]] 103)).alloc (.cells #[] 3)).alloc (.cells #[] 3)).alloc (.cells #[.slice (some ⟨w.heap.size + 1 + 1 + 1, 0, none⟩) 0 0] 26)).alloc (.cells #[.slice (some ⟨w.heap.size + 1 + 1 + 1 + 1, 0, none⟩) 0 0] 26) = W at *
 generalize w.heap.size + 1 + 1 + 1 + 1 + 1 + 1 = gc at *
 generalize w.heap.size + 1 + 1 + 1 + 1 + 1 = gf at *
 generalize w.heap.size + 1 + 1 + 1 + 1 = x2 at *
 generalize w.heap.size + 1 + 1 + 1 = x1 at *
 generalize w.heap.size + 1 + 1 = gk at *
 generalize w.heap.size + 1 = gp at *
 generalize w.heap.size = gl at *
 have l0 := (hC.at_ (gl, .slice Al pl.length cl) (by simp) 0 _ rfl).1
 go_wp2_with fail
 go_loopw [9, 15] (fun _ i wr => ∃ (k : Nat) (vf : Value), k ≤ pl.length ∧ i = .int .i64 k ∧ CP w0 wr gf [(gl, .slice Al pl.length cl), (gp, .slice Ap ps0.length cp), (gk, .func (.func 172) #[] #[.pointer (some ⟨go, 0, none⟩), .pointer (some ⟨gF, 0, none⟩)]), (gc, .slice (some ⟨x2, 0, none⟩) 0 0), (go, vo), (gF, .bool false)] (.slice (some ⟨x2, 0, none⟩) 0 0) vf ((pl.map (·.2)).take k)) (fun _ i _ => pl.length - (intOf i).toNat)
 case atStart => exact ⟨0, _, Nat.zero_le _, rfl, hC⟩
 case round =>
  obtain ⟨k, vf, hk, rfl, hCr⟩ := hrel
  clear hC l0
  by_cases hlt : k < pl.length
  ·have hlr := hl.below hCr.below
   obtain ⟨g, off, u, rfl, hg, k0, k1, hru⟩ := hlr.cell hlt
   obtain ⟨Au, cu, rfl, _, _⟩ := hru.form
   have Hsn : Hid ((pl.map (·.2)).take (k + 1) = (pl.map (·.2)).take k ++ [pl[k].2]) := by
    show _ = _
    rw [List.take_add_one, List.getElem?_map, List.getElem?_eq_getElem hlt]; rfl
   have hfl : ((pl.map (·.2)).take k).length ≤ 6 := by simp; omega
   generalize (pl.map (·.2)).take k = fr at *
   generalize pl[k] = q at *
   obtain ⟨r, f⟩ := q
   simp only at k0 k1 hru Hsn
   obtain ⟨Af, cf, rfl, _, _⟩ := (RdS.of_own hCr.own).form
   have hal : Below wr.heap.size wr (wr.alloc (.cells #[.slice Au r.length cu, .int .i64 f] 105)) := (Below.refl _ _).alloc (Nat.le_refl _) _
   have Lq : Loc (wr.alloc (.cells #[.slice Au r.length cu, .int .i64 f] 105)) wr.heap.size [.slice Au r.length cu, .int .i64 f] := Loc.new wr #[.slice Au r.length cu, .int .i64 f] 105
   have hC1 := hCr.keep hal
   go_upto_region 5 with (fail)
   obtain ⟨gq, hgq⟩ : ∃ g, wr.heap.size = g := ⟨_, rfl⟩
   rw [hgq] at Lq
   clear k0 k1 hlr hru hCr
   generalize (wr.alloc (.cells #[.slice Au r.length cu, .int .i64 f] 105)) = W1 at *
   rw [hgq]
   clear hal hgq hg
   have b0 := (hC1.box 0 _ rfl).1
   have q1 := (Lq 1 _ rfl).1
   have hal : Below W1.heap.size W1 (W1.alloc (.cells #[.int .i64 f] 3)) := (Below.refl _ _).alloc (Nat.le_refl _) _
   have hC2 := hC1.keep hal
   have hZ2 := hC2.below.size
   go_wp2_with (at_builtin; refine wpList_appendB _ rfl (.tmp 19) (.tmp 22) _ rfl w0.heap.size 3 i0 _ 1 8 Tryz.underlying26 hi0 hz0 hz1 hz2 rfl (by omega) _ fr.length (fr.flatMap cInt) rfl hC2.own _ 1 [.int .i64 f] rfl (rdS_new W1 #[.int .i64 f] _ 1 1 rfl (by simp [maxLen])) (by simp [Value.oneCell']) (by simp [maxLen]; omega) (by omega) hZ2 ?_; intro v5 w5 own5 gr5 at5; obtain ⟨Lc5, HG5⟩ := hC2.grow gr5 at5; have b5 := (Lc5 0 _ rfl).1; have f5 := (Lc5 0 _ rfl).2; obtain ⟨A5, c5, rfl, _, _⟩ := (RdS.of_own own5).form; have HC5 := Lib.hid (HG5 (fr ++ [f]) (by rw [List.length_append, List.flatMap_append]; exact own5)))
   go_roundw
   case rel => exact ⟨k + 1, _, by omega, by go_num, by rw [Hsn.out]; exact HC5.out⟩
   case measure => simp [intOf]; omega
  ·obtain rfl : k = pl.length := by omega
   rw [List.take_of_length_le (by simp)] at hCr
   go_upto_region 8 with (fail)
   have hal : Below wr.heap.size wr (wr.alloc (.cells #[.nilFunc] 160)) := (Below.refl _ _).alloc (Nat.le_refl _) _
   have Lr : Loc (wr.alloc (.cells #[.nilFunc] 160)) wr.heap.size [.nilFunc] := Loc.new wr #[.nilFunc] 160
   have hC1 := hCr.keep hal
   have hzr := hCr.below.size
   have hlt1 : ∀ b ∈ gf :: [gl, gp, gk, gc, go, gF], b < wr.heap.size := fun b hb => by
    rcases List.mem_cons.1 hb with rfl | hb
    ·exact loc_lt hCr.box
    ·obtain ⟨p, hp, e⟩ := List.mem_map.1 (show b ∈ [(gl, .slice Al pl.length cl), (gp, .slice Ap ps0.length cp), (gk, .func (.func 172) #[] #[.pointer (some ⟨go, 0, none⟩), .pointer (some ⟨gF, 0, none⟩)]), (gc, .slice (some ⟨x2, 0, none⟩) 0 0), (go, vo), (gF, .bool false)].map (·.1) from hb)
     rw [← e]; exact loc_lt (hCr.at_ p hp)
   have hvl1 : ∀ b ∈ vf.ownBlock.toList, b < wr.heap.size := fun b hb => (own_lt hCr.own b hb).2
   have hx2 : x2 < wr.heap.size := (own_lt hCr.emp x2 (by simp [Value.ownBlock])).2
   obtain ⟨gr, hgr⟩ : ∃ g, wr.heap.size = g := ⟨_, rfl⟩
   rw [hgr] at Lr hlt1 hvl1 hx2 hzr
   clear hCr
   generalize (wr.alloc (.cells #[.nilFunc] 160)) = W1 at *
   rw [hgr]
   clear hal hgr
   have r0 := (Lr 0 _ rfl).1
   have r1 := (Lr 0 _ rfl).2
   have hsf := fun (a : Addr) (f : Fn) (x y : Array Value) (m : Mode) (w : World) => run_store Tryz.prog w a (.func f x y) m rfl
   have hchR : Chg [gr] W1 (W1.setCell ⟨gr, 0, none⟩ (.func (.func 177) #[] #[.pointer (some ⟨gc, 0, none⟩), .pointer (some ⟨gp, 0, none⟩), .pointer (some ⟨gk, 0, none⟩), .pointer (some ⟨gl, 0, none⟩), .pointer (some ⟨gf, 0, none⟩), .pointer (some ⟨gr, 0, none⟩)])) := chg_set (Chg.refl _ _) (by simp)
   have hno : ∀ b ∈ gf :: [gl, gp, gk, gc, go, gF], b ∉ [gr] := fun b hb hb' => by have := hlt1 b hb; rw [List.mem_singleton.1 hb'] at this; omega
   have hCS : CS w0 (W1.setCell ⟨gr, 0, none⟩ (.func (.func 177) #[] #[.pointer (some ⟨gc, 0, none⟩), .pointer (some ⟨gp, 0, none⟩), .pointer (some ⟨gk, 0, none⟩), .pointer (some ⟨gl, 0, none⟩), .pointer (some ⟨gf, 0, none⟩), .pointer (some ⟨gr, 0, none⟩)])) gc gp gk gl gf gr go gF (.slice Ap ps0.length cp) (.func (.func 172) #[] #[.pointer (some ⟨go, 0, none⟩), .pointer (some ⟨gF, 0, none⟩)]) (.slice Al pl.length cl) vf (.func (.func 177) #[] #[.pointer (some ⟨gc, 0, none⟩), .pointer (some ⟨gp, 0, none⟩), .pointer (some ⟨gk, 0, none⟩), .pointer (some ⟨gl, 0, none⟩), .pointer (some ⟨gf, 0, none⟩), .pointer (some ⟨gr, 0, none⟩)]) [] (pl.map (·.2)) false := by
    have hnd := hC1.nd
    have hlg : gl < gr ∧ gp < gr ∧ gk < gr ∧ gc < gr ∧ go < gr ∧ gF < gr ∧ gf < gr := ⟨hlt1 _ (by simp), hlt1 _ (by simp), hlt1 _ (by simp), hlt1 _ (by simp), hlt1 _ (by simp), hlt1 _ (by simp), hlt1 _ (by simp)⟩
    simp only [List.map_cons, List.map_nil, List.nodup_cons, List.mem_cons, List.not_mem_nil, or_false, not_or] at hnd
    refine ⟨⟨fun b hb => ?_, ?_, hC1.below.setCell hzr _, ((hC1.at_ (gp, _) (by simp)).chg hchR (hno _ (by simp))), ((hC1.at_ (gk, _) (by simp)).chg hchR (hno _ (by simp))), ((hC1.at_ (gl, _) (by simp)).chg hchR (hno _ (by simp))), hC1.box.chg hchR (hno _ (by simp)), Lr.set (i := 0) (v := .nilFunc) rfl, ⟨vo, (hC1.at_ (go, vo) (by simp)).chg hchR (hno _ (by simp))⟩, (hC1.at_ (gF, .bool false) (by simp)).chg hchR (hno _ (by simp)), own_chg hC1.own hchR (fun b hb hb' => by have := hvl1 b hb; rw [List.mem_singleton.1 hb'] at this; omega), fun b hb => ?_⟩, .slice (some ⟨x2, 0, none⟩) 0 0, (hC1.at_ (gc, .slice (some ⟨x2, 0, none⟩) 0 0) (by simp)).chg hchR (hno _ (by simp)), own_chg hC1.emp hchR (fun b hb hb' => by simp [Value.ownBlock] at hb; have := List.mem_singleton.1 hb'; omega), fun b hb => ?_⟩
    ·by_cases hbr : b = gr
     ·rw [hbr]; exact hzr
     ·exact hC1.base b (by simp at hb ⊢; omega)
    ·simp only [BX, List.nodup_cons, List.mem_cons, List.not_mem_nil, or_false, not_or, List.nodup_nil, and_true, not_false_eq_true]
     omega
    ·have h1 := hC1.ap b hb
     have h2 := hvl1 b hb
     simp at h1 ⊢
     omega
    ·have h1 := (hC1.ap2 b hb).1
     have h2 := (hC1.ap2 b hb).2
     have h3 : b < gr := by simp [Value.ownBlock] at hb; omega
     rw [List.mem_append]
     rintro (h4 | h4)
     ·simp at h1 h4; omega
     ·exact h2 h4
   have b3 := (hCS.rest.br 0 _ rfl).1
   clear hC1 Lr hlt1 hvl1 hno
   go_upto_region 9 with (fail)
   clear hsf r0 r1
   generalize W1.setCell ⟨gr, 0, none⟩ (.func (.func 177) #[] #[.pointer (some ⟨gc, 0, none⟩), .pointer (some ⟨gp, 0, none⟩), .pointer (some ⟨gk, 0, none⟩), .pointer (some ⟨gl, 0, none⟩), .pointer (some ⟨gf, 0, none⟩), .pointer (some ⟨gr, 0, none⟩)]) = W2 at *
   have hHR := castR_any w0 _ _ _ ps0 pl hp hl hp7 hl6 gc gp gk gl gf gr go gF ps0 [] (pl.map (·.2)) (zeroL pl.length) W2 (show Hid (_ ∧ _) from ⟨rfl, Nat.zero_le _⟩) (Hands.start hfr) hCS
   clear hCS
   obtain ⟨cb, hcb⟩ : ∃ cb, canS pl ps0 (zeroL pl.length) = cb := ⟨_, rfl⟩
   rw [hcb] at hHR
   have HCB := Lib.hid hcb
   clear hcb
   go_wp2_with fail
   refine hHR.mono ?_
   rintro e W3 ⟨rfl, hC3⟩
   go_wp2_with fail
   first | go_end0 | go_ret
   exact ⟨rfl, hC3.rest.bo, by rw [HCB.out]; exact hC3.rest.bF, hC3.rest.below⟩
theorem arePuppets_any (v : Value) (l : List Int) (w : World) (h : RdL cInt 1 w v l) :
  Calls Tryz.prog 170 #[v] w fun e w' => e = .returned (.bool (strictB l 0 6)) ∧ Below w.heap.size w w' := by
 obtain ⟨A, c, rfl, h1, h2⟩ := h.form
 have hC := isStrict_any (.slice A l.length c) l 0 6 w h
 generalize strictB l 0 6 = b at *
 go_enter Tryz.func170, Tryz.ntmps170
 go_wp2_with fail
 refine hC.mono ?_
 rintro e w1 ⟨rfl, hb⟩
 go_wp2_with fail
 go_ret
 exact ⟨rfl, hb⟩
set_option maxHeartbeats 4000000 in
set_option maxRecDepth 100000 in
theorem implFirstCasting_any (v1 v2 : Value) (ps : List Int) (pl : List RPl) (w : World) (hl : RdPls w v1 pl) (hp : RdL cInt 1 w v2 ps) :
  Calls Tryz.prog 147 #[v1, v2] w (RetCast (canF pl ps) w) := by
 have hl0 := hl
 have hp0 := hp
 obtain ⟨Al, cl, rfl, _, _⟩ := hl.form
 obtain ⟨Ap, cp, rfl, _, _⟩ := hp.form
 go_enter Tryz.func147, Tryz.ntmps147
 go_wp2_with fail
 refine twoB (implPlayersOk_any _ pl _ hl) (fun w1 hq hb1 => ?_) (fun w1 hq hb1 => ?_)
 ·have hp1 := hp.below hb1
  have hl1 := hl.below hb1
  obtain ⟨h6, h1, _⟩ := playersB_sz hq.out
  have Hfr := Lib.hid (playersB_fr hq.out)
  go_wp2_with fail
  refine twoB (arePuppets_any _ ps _ hp1) (fun w2 hs hb2 => ?_) (fun w2 hs hb2 => ?_)
  ·have h7 := strict_len (m := 6) hs.out
   have HF := Lib.hid (canF_t hq.out hs.out)
   have hb02 := bl_trans hb1 hb2
   have ha : Below w2.heap.size w2 ((w2.alloc (.cells #[.slice none 0 0] 26)).alloc (.cells #[.bool false] 4)) := by (repeat' (with_reducible first | exact Below.refl _ _ | assumption | refine qS ?_ _ | refine qA ?_ _ | refine qD ?_ | refine qN ?_ _))
   have La : Loc ((w2.alloc (.cells #[.slice none 0 0] 26)).alloc (.cells #[.bool false] 4)) w2.heap.size [.slice none 0 0] := (Loc.new w2 #[.slice none 0 0] 26).alloc _
   have Lb : Loc ((w2.alloc (.cells #[.slice none 0 0] 26)).alloc (.cells #[.bool false] 4)) (w2.heap.size + 1) [.bool false] := by have := Loc.new (w2.alloc (.cells #[.slice none 0 0] 26)) #[.bool false] 4; simpa using this
   have hb03 := bl_trans hb02 ha
   have hz := hb02.size
   have hC := castings_any w ((w2.alloc (.cells #[.slice none 0 0] 26)).alloc (.cells #[.bool false] 4)) _ _ ps pl hp0 hl0 (by omega) h6 Hfr.out w2.heap.size (w2.heap.size + 1) hb03 hz (by omega) (by omega) _ La Lb
   clear ha La Lb hb1 hb2 hp1 hl1 hp hl
   obtain ⟨cb, hcb⟩ : ∃ cb, canS pl ps (zeroL pl.length) = cb := ⟨_, rfl⟩
   rw [hcb] at hC HF
   clear hcb
   go_wp2_with fail
   refine hC.mono ?_
   rintro e w3 ⟨rfl, ⟨vo, Lo⟩, LF, hb⟩
   have b0 := (Lo 0 _ rfl).1
   have b1 := (LF 0 _ rfl).1
   clear hC
   go_wp2_with fail
   go_quiet (fail)
   rename_i nq
   go_wp2_with fail
   go_ret2
   rw [HF.out]
   exact ⟨_, rfl, below_drewN hb _⟩
  ·have HF := Lib.hid (canF_f2 (pl := pl) hs.out)
   have hb02 := bl_trans hb1 hb2
   go_wp2_with fail
   go_ret2
   rw [HF.out]
   exact ⟨_, rfl, hb02⟩
 ·have HF := Lib.hid (canF_f1 (ps := ps) hq.out)
  go_wp2_with fail
  go_ret2
  rw [HF.out]
  exact ⟨_, rfl, hb1⟩
set_option maxHeartbeats 4000000 in
theorem canPlay_any (v1 v2 : Value) (ps : List Int) (pl : List RPl) (w : World) (hl : RdPls w v1 pl) (hp : RdL cInt 1 w v2 ps) :
  Calls Tryz.prog 106 #[v1, v2] w fun e w' => e = .returned (.bool (canF pl ps)) ∧ Below w.heap.size w w' := by
 have hC := implFirstCasting_any v1 v2 ps pl w hl hp
 obtain ⟨Al, cl, rfl, _, _⟩ := hl.form
 obtain ⟨Ap, cp, rfl, _, _⟩ := hp.form
 generalize canF pl ps = cb at *
 go_enter Tryz.func106, Tryz.ntmps106
 go_wp2_with fail
 refine hC.mono ?_
 rintro e w1 ⟨vo, rfl, hb⟩
 go_wp2_with fail
 go_ret
 exact ⟨rfl, hb⟩
open Go.RowKit
def SeaPost (w0 : World) (vd : Value) (ld : List Int) (b : Bool) (w : World) (e : Ending) (w' : World) : Prop := ∃ vx, e = .returned (.tuple #[vx, .bool b]) ∧ w'.ownsRow w0.heap.size 3 1 vd ld.length (ld.flatMap cInt) ∧ Chg vd.ownBlock.toList w w'
theorem act83ls {a : Act} (h : a.tmps.size = 83) (hd : a.defers = []) : ∃ x0 x1 x2 x3 x4 x5 x6 x7 x8 x9 x10 x11 x12 x13 x14 x15 x16 x17 x18 x19 x20 x21 x22 x23 x24 x25 x26 x27 x28 x29 x30 x31 x32 x33 x34 x35 x36 x37 x38 x39 x40 x41 x42 x43 x44 x45 x46 x47 x48 x49 x50 x51 x52 x53 x54 x55 x56 x57 x58 x59 x60 x61 x62 x63 x64 x65 x66 x67 x68 x69 x70 x71 x72 x73 x74 x75 x76 x77 x78 x79 x80 x81 x82 : Value, a = ⟨#[x0, x1, x2, x3, x4, x5, x6, x7, x8, x9, x10, x11, x12, x13, x14, x15, x16, x17, x18, x19, x20, x21, x22, x23, x24, x25, x26, x27, x28, x29, x30, x31, x32, x33, x34, x35, x36, x37, x38, x39, x40, x41, x42, x43, x44, x45, x46, x47, x48, x49, x50, x51, x52, x53, x54, x55, x56, x57, x58, x59, x60, x61, x62, x63, x64, x65, x66, x67, x68, x69, x70, x71, x72, x73, x74, x75, x76, x77, x78, x79, x80, x81, x82], []⟩ := by
 obtain ⟨⟨l⟩, d⟩ := a
 subst hd
 match l, h with
 | x0 :: x1 :: x2 :: x3 :: x4 :: x5 :: x6 :: x7 :: x8 :: x9 :: x10 :: x11 :: x12 :: x13 :: x14 :: x15 :: x16 :: x17 :: x18 :: x19 :: x20 :: x21 :: x22 :: x23 :: x24 :: x25 :: x26 :: x27 :: x28 :: x29 :: x30 :: x31 :: x32 :: x33 :: x34 :: x35 :: x36 :: x37 :: x38 :: x39 :: x40 :: x41 :: x42 :: x43 :: x44 :: x45 :: x46 :: x47 :: x48 :: x49 :: x50 :: x51 :: x52 :: x53 :: x54 :: x55 :: x56 :: x57 :: x58 :: x59 :: x60 :: x61 :: x62 :: x63 :: x64 :: x65 :: x66 :: x67 :: x68 :: x69 :: x70 :: x71 :: x72 :: x73 :: x74 :: x75 :: x76 :: x77 :: x78 :: x79 :: x80 :: x81 :: x82 :: [], _ => exact ⟨x0, x1, x2, x3, x4, x5, x6, x7, x8, x9, x10, x11, x12, x13, x14, x15, x16, x17, x18, x19, x20, x21, x22, x23, x24, x25, x26, x27, x28, x29, x30, x31, x32, x33, x34, x35, x36, x37, x38, x39, x40, x41, x42, x43, x44, x45, x46, x47, x48, x49, x50, x51, x52, x53, x54, x55, x56, x57, x58, x59, x60, x61, x62, x63, x64, x65, x66, x67, x68, x69, x70, x71, x72, x73, x74, x75, x76, x77, x78, x79, x80, x81, x82, rfl⟩
def pls (gv ldn cd k g off pln cl gx ox psn cp cl0 : Nat) (lk f x : Int) (Au : Option Addr) (n cu : Nat) (kn : Bool) (i : Nat) (v : Value) (_ : Nat → Nat) (_ : World) : Prop :=
 match i with
 | 0 => v = .slice (some ⟨gv, 0, none⟩) ldn cd
 | 1 => v = .int .i64 k
 | 2 => v = .pointer (some ⟨gv, k, none⟩)
 | 3 => v = .int .i64 lk
 | 4 => v = .slice (some ⟨g, off, none⟩) pln cl
 | 5 => v = .int .i64 k
 | 6 => v = .pointer (some ⟨g, (off + k * 2), none⟩)
 | 7 => v = .pointer (some ⟨g, (off + k * 2 + 1), none⟩)
 | 8 => v = .int .i64 f
 | 9 => v = .bool false
 | 10 => v = .bool false
 | 11 => v = .slice (some ⟨g, off, none⟩) pln cl
 | 12 => v = .int .i64 k
 | 13 => v = .pointer (some ⟨g, (off + k * 2), none⟩)
 | 14 => v = .agg #[.slice Au n cu, .int .i64 f]
 | 15 => v = .slice (some ⟨gx, ox, none⟩) psn cp
 | 16 => v = .int .i64 cl0
 | 17 => v = .pointer (some ⟨gx, (ox + cl0), none⟩)
 | 18 => v = .int .i64 x
 | 19 => v = .bool kn
 | 20 => v = .bool (!kn)
 | _ => True
set_option maxHeartbeats 8000000 in
set_option maxRecDepth 100000 in
theorem search_any (w0 : World) (vp vl : Value) (ps0 : List Int) (pl : List RPl) (hp : RdL cInt 1 w0 vp ps0) (hl : RdPls w0 vl pl) (hp7 : ps0.length ≤ 7) (hl6 : pl.length ≤ 6) : ∀ (ps cast fr ld : List Int) (vc vd : Value) (w : World), Hid (ps0.drop cast.length = ps ∧ cast.length ≤ ps0.length) → Hands pl ld fr → Below w0.heap.size w0 w → w.ownsRow w0.heap.size 3 1 vd ld.length (ld.flatMap cInt) → w.ownsRow 0 3 1 vc cast.length (cast.flatMap cInt) → Apart vc vd →
  Calls Tryz.prog 161 #[vl, vp, vc, vd] w (SeaPost w0 vd ld (canS pl ps ld) w) := by
 intro ps
 obtain ⟨i0, hi0, hz0, hz1, hz2⟩ := info_parts infoInt
 induction ps with
 | nil =>
  intro cast fr ld vc vd w hps hhd hb hown hcast hap
  have hlen : cast.length = ps0.length := by
   have h1 := congrArg List.length hps.out.1
   have h2 := hps.out.2
   simp at h1
   omega
  have hbe : ((cast.length : Int) == (ps0.length : Int)) = true := by rw [beq_iff_eq]; omega
  have hc7 : cast.length ≤ 7 := by omega
  have hz := hb.size
  clear hlen hps hhd
  show Calls Tryz.prog 161 _ w (SeaPost w0 vd ld true w)
  obtain ⟨Ac, cc, rfl, _, _⟩ := (RdS.of_own hcast).form
  obtain ⟨Ad, cd, rfl, _, _⟩ := (RdS.of_own hown).form
  obtain ⟨Ap, cp, rfl, _, _⟩ := (hp.below hb).form
  obtain ⟨Al, cl, rfl, _, _⟩ := (hl.below hb).form
  go_enter Tryz.func161, Tryz.ntmps161
  go_wp2_with (at_builtin; refine wpList_append_empty _ rfl (.tmp 20) (.tmp 21) _ rfl w0.heap.size 3 i0 _ 1 8 Tryz.underlying26 hi0 hz0 hz1 hz2 rfl (by omega) w.heap.size rfl (own_mono (World.ownsRow_made (size := 1) (e := 3) w #[] 0 (Nat.le_refl _) (by simp [maxLen]) rfl) (by omega)) _ cast.length (cast.flatMap cInt) rfl (RdS.of_own (own_below hcast ((Below.refl _ _).alloc (Nat.le_refl _) _))) (oneCell_flat cInt_one cast) (by simp [maxLen]; omega) (by omega) (by simp <;> omega) ?_; intro v5 w5 own5 hb5 in5)
  obtain ⟨A5, c5, rfl, _, _⟩ := (RdS.of_own own5).form
  have hb6 : Below w.heap.size w w5 := bl_alloc hb5
  go_wp2_with fail
  go_ret2
  exact ⟨_, rfl, own_below hown hb6, Chg.of_below hb6 _⟩
 | cons x ps ih =>
  intro cast fr ld vc vd w hps hhd hb hown hcast hap
  have hcp : cast.length < ps0.length := by
   have h1 := congrArg List.length hps.out.1
   simp at h1
   omega
  have hdr := hps.out.1
  rw [List.drop_eq_getElem_cons hcp] at hdr
  injection hdr with hdr1 hdr2
  have hpx : ∀ h : cast.length < ps0.length, ps0[cast.length] = x := fun _ => hdr1
  have Hps2 := Lib.hid hdr2
  clear hdr1 hdr2
  have hHD := Lib.hid hhd
  obtain ⟨Ac, cc, rfl, _, _⟩ := (RdS.of_own hcast).form
  obtain ⟨Ad, cd, rfl, _, _⟩ := (RdS.of_own hown).form
  obtain ⟨Ap, cp, rfl, _, _⟩ := (hp.below hb).form
  obtain ⟨Al, cl, rfl, _, _⟩ := (hl.below hb).form
  have hne : ((cast.length : Int) == (ps0.length : Int)) = false := by rw [beq_eq_false_iff_ne]; omega
  have Hpx := Lib.hid hpx
  have HI := Lib.hid ih
  have Hap := Lib.hid hap
  clear ih hps hpx hap
  go_enter Tryz.func161, Tryz.ntmps161
  go_wp2_with fail
  go_loopw [11, 12, 13] (fun i _ _ wr => ∃ k : Nat, k ≤ pl.length ∧ i = .int .i64 k ∧ Hid (TriedF pl x ps ld k) ∧ Below w0.heap.size w0 wr ∧ wr.ownsRow w0.heap.size 3 1 (.slice Ad ld.length cd) ld.length (ld.flatMap cInt) ∧ wr.ownsRow 0 3 1 (.slice Ac cast.length cc) cast.length (cast.flatMap cInt) ∧ Chg (Value.slice Ad ld.length cd).ownBlock.toList w wr) (fun i _ _ _ => pl.length - (intOf i).toNat)
  case atStart => exact ⟨0, Nat.zero_le _, rfl, TriedF.zero _ _ _ _, hb, hown, hcast, Chg.refl _ _⟩
  case round =>
   obtain ⟨k, hk, rfl, htr, hbr, ho, hca, hch⟩ := hrel
   clear hb hown hcast
   by_cases hlt : k < pl.length
   ·have hlr := hl.below hbr
    have hzr := hbr.size
    obtain ⟨g, off, u, rfl, hg, k0, k1, hru⟩ := hlr.cell hlt
    have hkl : k < ld.length := by have := hHD.out.l1; omega
    have hkf : k < fr.length := by have := hHD.out.l2; omega
    obtain ⟨gv, cv, e⟩ := own_form ho (by omega)
    injection e with e1 e2 e3
    subst e1 e3
    clear e2
    have HCN := Lib.hid (canAt_eq (pl := pl) (x := x) hlt hkl)
    obtain ⟨Au, cu, rfl, _, _⟩ := hru.form
    have HAT := Lib.hid (hHD.out.at_ k hlt hkl hkf)
    have v0 := row_cell ho hkl
    have vf0 := ho.frozenAt k
    obtain ⟨lk, hlk⟩ : ∃ lk, ld[k] = lk := ⟨_, rfl⟩
    have HBU := Lib.hid (bump_eq (ld := ld) (p := k) hkl)
    have HUB := Lib.hid (unbump (ld := ld) (p := k) hkl)
    rw [hlk] at v0 HCN HAT HBU HUB
    have HLK := Lib.hid hlk
    clear hlk
    generalize hqk : pl[k] = q at *
    obtain ⟨r, f⟩ := q
    simp only at k0 k1 hru HCN HAT
    have hlb : 0 ≤ lk ∧ lk ≤ 2 := by have := HAT.out; omega
    have hpw := hp.below hbr
    obtain ⟨gx, ox, rfl, hgx, hcx⟩ := hpw.cell (k := cast.length) cInt_len (by omega) hcp
    have x0 := hcx 0 _ rfl
    simp only [Nat.add_zero, Nat.mul_one] at x0
    rw [Hpx.out hcp] at x0
    clear hcx hpw hqk
    have hcl : ((cast.length : Nat) : Int) < ((ps0.length : Nat) : Int) := by omega
    obtain ⟨kn, hkn⟩ : ∃ kn, knowsB (r, f) x = kn := ⟨_, rfl⟩
    rw [hkn] at HCN
    have HKW : Hid (∀ w, RdL cInt 1 w (.slice Au r.length cu) r → Calls Tryz.prog 150 #[.agg #[.slice Au r.length cu, .int .i64 f], .int .i64 x] w fun e w' => e = .returned (.bool kn) ∧ Below w.heap.size w w') := fun w h => by rw [← hkn]; exact l13Knows_any _ r f x w h
    clear hkn hlr
    by_cases hge : f ≤ lk
    ·have hd : decide (f ≤ lk) = true := decide_eq_true hge
     have HN := Lib.hid (htr.out.no (show canAt pl x ld k = false by rw [HCN.out, decide_eq_false (by omega)]; rfl))
     go_wp2_with fail
     go_quiet (fail)
     rename_i nq
     have ho2 : (wr.drewN nq).ownsRow w0.heap.size 3 1 (.slice (some ⟨gv, 0, none⟩) ld.length cd) ld.length (ld.flatMap cInt) := ho
     have hca2 : (wr.drewN nq).ownsRow 0 3 1 (.slice Ac cast.length cc) cast.length (cast.flatMap cInt) := hca
     have hbr2 := below_drewN hbr nq
     have hch2 := chg_drewN hch nq
     clear k0 k1 v0 vf0 x0 hru ho hca hbr hch
     generalize wr.drewN nq = W2 at *
     go_wp2_with fail
     go_roundw
     case rel => exact ⟨k + 1, by omega, by go_num, HN.out, hbr2, ho2, hca2, hch2⟩
     case measure => simp [intOf]; omega
    ·have hd : decide (f ≤ lk) = false := decide_eq_false hge
     have hd' : decide (lk < f) = true := decide_eq_true (by omega)
     go_upto_region 7 with (fail)
     refine region_guardedL (n := 83) 21 (by kernel_rfl) rfl (by kernel_rfl) [10] (by kernel_rfl) (fun j => if j = 10 then false else false) (fun w' => Below wr.heap.size wr w') (fun _ => 0) (pls gv ld.length cd k g off pl.length cl gx ox ps0.length cp cast.length lk f x Au r.length cu kn) ⟨fun _ _ _ h => h, trivial⟩ (Below.refl _ _).drew ?_ ?_ ?_
     ·intro i v gh gh' w1 w2 hp hJ hb' hg
      match i, hp with
      | 0, hp => exact hp
      | 1, hp => exact hp
      | 2, hp => exact hp
      | 3, hp => exact hp
      | 4, hp => exact hp
      | 5, hp => exact hp
      | 6, hp => exact hp
      | 7, hp => exact hp
      | 8, hp => exact hp
      | 9, hp => exact hp
      | 10, hp => exact hp
      | 11, hp => exact hp
      | 12, hp => exact hp
      | 13, hp => exact hp
      | 14, hp => exact hp
      | 15, hp => exact hp
      | 16, hp => exact hp
      | 17, hp => exact hp
      | 18, hp => exact hp
      | 19, hp => exact hp
      | 20, hp => exact hp
      | _ + 21, _ => trivial
     ·refine ⟨?_, ?_, ?_, ?_, ?_, ?_, ?_, ?_, ?_, ?_, ?_, ?_, ?_, ?_, ?_, ?_, ?_, ?_, ?_, ?_, ?_, trivial⟩
      ·intro a gh w5 hag hJ hd
       dsimp only [bareO]
       have ag3 : a.tmps.getD 3 undef = .slice (some ⟨gv, 0, none⟩) ld.length cd := hag.kept 3 (by kernel_rfl)
       clear hag
       go_wp2_with fail
       exact ⟨rfl, _, rfl, rfl, hJ, Below.refl _ _⟩
      ·intro a gh w5 hag hJ hd
       dsimp only [bareO]
       have ag11 : a.tmps.getD 11 undef = .int .i64 k := hag.kept 11 (by kernel_rfl)
       clear hag
       go_wp2_with fail
       exact ⟨rfl, _, rfl, rfl, hJ, Below.refl _ _⟩
      ·intro a gh w5 hag hJ hd
       dsimp only [bareO]
       clear hag
       have e0 : a.tmps.getD 29 undef = .slice (some ⟨gv, 0, none⟩) ld.length cd := hd 0 (by kernel_rfl) _ rfl
       have e1 : a.tmps.getD 30 undef = .int .i64 k := hd 1 (by kernel_rfl) _ rfl
       go_wp2_with fail
       exact ⟨rfl, _, rfl, rfl, hJ, Below.refl _ _⟩
      ·intro a gh w5 hag hJ hd
       dsimp only [bareO]
       clear hag
       have e0 : a.tmps.getD 31 undef = .pointer (some ⟨gv, k, none⟩) := hd 2 (by kernel_rfl) _ rfl
       have k0 := carry hJ v0
       go_wp2_with fail
       exact ⟨rfl, _, rfl, rfl, hJ, Below.refl _ _⟩
      ·intro a gh w5 hag hJ hd
       dsimp only [bareO]
       have ag0 : a.tmps.getD 0 undef = .slice (some ⟨g, off, none⟩) pl.length cl := hag.kept 0 (by kernel_rfl)
       clear hag
       go_wp2_with fail
       exact ⟨rfl, _, rfl, rfl, hJ, Below.refl _ _⟩
      ·intro a gh w5 hag hJ hd
       dsimp only [bareO]
       have ag11 : a.tmps.getD 11 undef = .int .i64 k := hag.kept 11 (by kernel_rfl)
       clear hag
       go_wp2_with fail
       exact ⟨rfl, _, rfl, rfl, hJ, Below.refl _ _⟩
      ·intro a gh w5 hag hJ hd
       dsimp only [bareO]
       clear hag
       have e0 : a.tmps.getD 33 undef = .slice (some ⟨g, off, none⟩) pl.length cl := hd 4 (by kernel_rfl) _ rfl
       have e1 : a.tmps.getD 34 undef = .int .i64 k := hd 5 (by kernel_rfl) _ rfl
       go_wp2_with fail
       exact ⟨rfl, _, rfl, rfl, hJ, Below.refl _ _⟩
      ·intro a gh w5 hag hJ hd
       dsimp only [bareO]
       clear hag
       have e0 : a.tmps.getD 35 undef = .pointer (some ⟨g, (off + k * 2), none⟩) := hd 6 (by kernel_rfl) _ rfl
       go_wp2_with fail
       exact ⟨rfl, _, rfl, rfl, hJ, Below.refl _ _⟩
      ·intro a gh w5 hag hJ hd
       dsimp only [bareO]
       clear hag
       have e0 : a.tmps.getD 36 undef = .pointer (some ⟨g, (off + k * 2 + 1), none⟩) := hd 7 (by kernel_rfl) _ rfl
       have k0 := carry hJ k1
       go_wp2_with fail
       exact ⟨rfl, _, rfl, rfl, hJ, Below.refl _ _⟩
      ·intro a gh w5 hag hJ hd
       dsimp only [bareO]
       clear hag
       have e0 : a.tmps.getD 32 undef = .int .i64 lk := hd 3 (by kernel_rfl) _ rfl
       have e1 : a.tmps.getD 37 undef = .int .i64 f := hd 8 (by kernel_rfl) _ rfl
       go_wp2_with fail
       exact ⟨rfl, _, rfl, rfl, hJ, Below.refl _ _⟩
      ·intro a gh w5 hag hJ hd
       dsimp only [bareO]
       clear hag
       have e0 : a.tmps.getD 38 undef = .bool false := hd 9 (by kernel_rfl) _ rfl
       go_wp2_with fail
       exact ⟨rfl, _, rfl, rfl, hJ, Below.refl _ _⟩
      ·intro a gh w5 hag hJ hd
       dsimp only [bareO]
       have ag0 : a.tmps.getD 0 undef = .slice (some ⟨g, off, none⟩) pl.length cl := hag.kept 0 (by kernel_rfl)
       clear hag
       go_wp2_with fail
       exact ⟨rfl, _, rfl, rfl, hJ, Below.refl _ _⟩
      ·intro a gh w5 hag hJ hd
       dsimp only [bareO]
       have ag11 : a.tmps.getD 11 undef = .int .i64 k := hag.kept 11 (by kernel_rfl)
       clear hag
       go_wp2_with fail
       exact ⟨rfl, _, rfl, rfl, hJ, Below.refl _ _⟩
      ·intro a gh w5 hag hJ hd
       dsimp only [bareO]
       clear hag
       have e0 : a.tmps.getD 40 undef = .slice (some ⟨g, off, none⟩) pl.length cl := hd 11 (by kernel_rfl) _ rfl
       have e1 : a.tmps.getD 41 undef = .int .i64 k := hd 12 (by kernel_rfl) _ rfl
       go_wp2_with fail
       exact ⟨rfl, _, rfl, rfl, hJ, Below.refl _ _⟩
      ·intro a gh w5 hag hJ hd
       dsimp only [bareO]
       clear hag
       have e0 : a.tmps.getD 42 undef = .pointer (some ⟨g, (off + k * 2), none⟩) := hd 13 (by kernel_rfl) _ rfl
       have k2 := carry hJ k0
       have k3 := carry hJ k1
       go_wp2_with fail
       exact ⟨rfl, _, rfl, rfl, hJ, Below.refl _ _⟩
      ·intro a gh w5 hag hJ hd
       dsimp only [bareO]
       have ag1 : a.tmps.getD 1 undef = .slice (some ⟨gx, ox, none⟩) ps0.length cp := hag.kept 1 (by kernel_rfl)
       clear hag
       go_wp2_with fail
       exact ⟨rfl, _, rfl, rfl, hJ, Below.refl _ _⟩
      ·intro a gh w5 hag hJ hd
       dsimp only [bareO]
       have ag10 : a.tmps.getD 10 undef = .int .i64 cast.length := hag.kept 10 (by kernel_rfl)
       clear hag
       go_wp2_with fail
       exact ⟨rfl, _, rfl, rfl, hJ, Below.refl _ _⟩
      ·intro a gh w5 hag hJ hd
       dsimp only [bareO]
       clear hag
       have e0 : a.tmps.getD 44 undef = .slice (some ⟨gx, ox, none⟩) ps0.length cp := hd 15 (by kernel_rfl) _ rfl
       have e1 : a.tmps.getD 45 undef = .int .i64 cast.length := hd 16 (by kernel_rfl) _ rfl
       go_wp2_with fail
       exact ⟨rfl, _, rfl, rfl, hJ, Below.refl _ _⟩
      ·intro a gh w5 hag hJ hd
       dsimp only [bareO]
       clear hag
       have e0 : a.tmps.getD 46 undef = .pointer (some ⟨gx, (ox + cast.length), none⟩) := hd 17 (by kernel_rfl) _ rfl
       have k2 := carry hJ x0
       go_wp2_with fail
       exact ⟨rfl, _, rfl, rfl, hJ, Below.refl _ _⟩
      ·intro a gh w5 hag hJ hd
       dsimp only [bareO]
       clear hag
       have e0 : a.tmps.getD 43 undef = .agg #[.slice Au r.length cu, .int .i64 f] := hd 14 (by kernel_rfl) _ rfl
       have e1 : a.tmps.getD 47 undef = .int .i64 x := hd 18 (by kernel_rfl) _ rfl
       go_wp2_with fail
       refine (HKW.out w5 (hru.below hJ)).mono ?_
       rintro e w6 ⟨rfl, hb6⟩
       go_wp2_with fail
       exact ⟨rfl, _, rfl, rfl, bl_trans hJ hb6, hb6⟩
      ·intro a gh w5 hag hJ hd
       dsimp only [bareO]
       clear hag
       have e0 : a.tmps.getD 48 undef = .bool kn := hd 19 (by kernel_rfl) _ rfl
       go_wp2_with fail
       exact ⟨rfl, _, rfl, rfl, hJ, Below.refl _ _⟩
     ·intro a gh w5 hag hJ hd
      obtain ⟨x0, x1, x2, x3, x4, x5, x6, x7, x8, x9, x10, x11, x12, x13, x14, x15, x16, x17, x18, x19, x20, x21, x22, x23, x24, x25, x26, x27, x28, x29, x30, x31, x32, x33, x34, x35, x36, x37, x38, x39, x40, x41, x42, x43, x44, x45, x46, x47, x48, x49, x50, x51, x52, x53, x54, x55, x56, x57, x58, x59, x60, x61, x62, x63, x64, x65, x66, x67, x68, x69, x70, x71, x72, x73, x74, x75, x76, x77, x78, x79, x80, x81, x82, rfl⟩ := act83ls hag.size hag.defers
      have ag0 : x0 = .slice (some ⟨g, off, none⟩) pl.length cl := hag.kept 0 (by kernel_rfl)
      have ag1 : x1 = .slice (some ⟨gx, ox, none⟩) ps0.length cp := hag.kept 1 (by kernel_rfl)
      have ag2 : x2 = .slice Ac cast.length cc := hag.kept 2 (by kernel_rfl)
      have ag3 : x3 = .slice (some ⟨gv, 0, none⟩) ld.length cd := hag.kept 3 (by kernel_rfl)
      have ag4 : x4 = undef := hag.kept 4 (by kernel_rfl)
      have ag5 : x5 = undef := hag.kept 5 (by kernel_rfl)
      have ag6 : x6 = undef := hag.kept 6 (by kernel_rfl)
      have ag7 : x7 = undef := hag.kept 7 (by kernel_rfl)
      have ag8 : x8 = u8 := hag.kept 8 (by kernel_rfl)
      have ag9 : x9 = u9 := hag.kept 9 (by kernel_rfl)
      have ag10 : x10 = .int .i64 cast.length := hag.kept 10 (by kernel_rfl)
      have ag11 : x11 = .int .i64 k := hag.kept 11 (by kernel_rfl)
      have ag14 : x14 = .slice Ac cast.length cc := hag.kept 14 (by kernel_rfl)
      have ag15 : x15 = .int .i64 cast.length := hag.kept 15 (by kernel_rfl)
      have ag16 : x16 = .int .i64 cast.length := hag.kept 16 (by kernel_rfl)
      have ag17 : x17 = .slice (some ⟨gx, ox, none⟩) ps0.length cp := hag.kept 17 (by kernel_rfl)
      have ag18 : x18 = .int .i64 ps0.length := hag.kept 18 (by kernel_rfl)
      have ag19 : x19 = .bool false := hag.kept 19 (by kernel_rfl)
      have ag20 : x20 = undef := hag.kept 20 (by kernel_rfl)
      have ag21 : x21 = undef := hag.kept 21 (by kernel_rfl)
      have ag22 : x22 = undef := hag.kept 22 (by kernel_rfl)
      have ag82 : x82 = undef := hag.kept 82 (by kernel_rfl)
      clear hag
      subst ag0 ag1 ag2 ag3 ag4 ag5 ag6 ag7 ag8 ag9 ag10 ag11 ag14 ag15 ag16 ag17 ag18 ag19 ag20 ag21 ag22 ag82
      obtain e1 : x39 = .bool false := hd 10 (by kernel_rfl) _ rfl
      obtain e2 : x49 = .bool (!kn) := hd 20 (by kernel_rfl) _ rfl
      subst e1 e2
      change wpList _ _ _ [_] _ _
      have ho2 := own_below ho hJ
      have hca2 := own_below hca hJ
      have hbr2 := hbr.trans (hJ.mono hzr)
      have hch2 := hch.trans (Chg.of_below hJ _)
      have hz5 := hbr2.size
      have v1 := carry hJ v0
      have vf1 := carryF hJ v0 vf0
      clear hJ hd k0 k1 v0 vf0 x0 hru ho hca hbr hch hzr hg hgx
      cases kn
      ·have HN := Lib.hid (htr.out.no (show canAt pl x ld k = false by rw [HCN.out, Bool.and_false]))
       go_wp2_with fail
       go_roundw
       case rel => exact ⟨k + 1, by omega, by go_num, HN.out, hbr2, ho2, hca2, hch2⟩
       case measure => simp [intOf]; omega
      ·have HCT := Lib.hid (show canAt pl x ld k = true by rw [HCN.out, hd']; rfl)
       have hw1 : IntKind.i64.wrap (lk + 1) = lk + 1 := IntWalk.i64_in _ (by omega)
       have hd5 : ∀ b ∈ (Value.slice (some ⟨gv, 0, none⟩) ld.length cd).ownBlock.toList, b = gv := fun b hb => by simpa [Value.ownBlock] using hb
       have hgv := own_lt ho2 gv (by simp [Value.ownBlock])
       have HLS : Hid (Hands pl (bump ld k) (fr.set k (fr[k] - 1))) := hHD.out.less hkf (by have := HAT.out; omega)
       go_upto_region 9 with (fail)
       have hch6 : Chg (Value.slice (some ⟨gv, 0, none⟩) ld.length cd).ownBlock.toList w5 (w5.setCell ⟨gv, k, none⟩ (.int .i64 (lk + 1))) := chg_set (Chg.refl _ _) (by simp [Value.ownBlock])
       have ho6 : (w5.setCell ⟨gv, k, none⟩ (.int .i64 (lk + 1))).ownsRow w0.heap.size 3 1 (.slice (some ⟨gv, 0, none⟩) ld.length cd) (bump ld k).length ((bump ld k).flatMap cInt) := by rw [bump_len, HBU.out]; exact row_stored ho2 k (lk + 1)
       have hca6 := own_chg hca2 hch6 Hap.out
       have hbr6 := Below.chg hbr2 hch6 hz5 (fun b hb => by rw [hd5 b hb]; exact hgv.1)
       have hz6 := hch6.size
       clear hw1 v1 vf1
       generalize w5.setCell ⟨gv, k, none⟩ (.int .i64 (lk + 1)) = W6 at *
       go_wp2_with (at_builtin; first | (refine wpList_append_empty _ rfl (.tmp 62) (.tmp 63) _ rfl W6.heap.size 3 i0 _ 1 8 Tryz.underlying26 hi0 hz0 hz1 hz2 rfl (by omega) W6.heap.size rfl (own_mono (World.ownsRow_made (size := 1) (e := 3) W6 #[] 0 (Nat.le_refl _) (by simp [maxLen]) rfl) (by omega)) _ cast.length (cast.flatMap cInt) rfl (RdS.of_own (own_below hca6 ((Below.refl _ _).alloc (Nat.le_refl _) _))) (oneCell_flat cInt_one cast) (by simp [maxLen]; omega) (by omega) (by simp <;> omega) ?_; intro v7 v7w own7 hb7 in7; obtain ⟨A7, c7, rfl, _, _⟩ := (RdS.of_own own7).form; have hb7' : Below W6.heap.size W6 v7w := bl_alloc hb7; have hz7 := hb7'.size) | (refine wpList_appendB _ rfl (.tmp 64) (.tmp 66) _ rfl W6.heap.size 3 i0 _ 1 8 Tryz.underlying26 hi0 hz0 hz1 hz2 rfl (by omega) _ cast.length (cast.flatMap cInt) rfl (own_below own7 ((Below.refl _ _).alloc (Nat.le_refl _) _)) _ 1 [.int .i64 k] rfl (rdS_new v7w #[.int .i64 k] _ 1 1 rfl (by simp [maxLen])) (by simp [Value.oneCell']) (by simp [maxLen]; omega) (by omega) (by simp; omega) ?_; intro v8 w8 own8 gr8 at8; obtain ⟨A8, c8, rfl, _, _⟩ := (RdS.of_own own8).form))
       have hb8 : Below W6.heap.size W6 w8 := (hb7'.alloc (by omega) _).trans (below_own (own_below own7 ((Below.refl _ _).alloc (Nat.le_refl _) _)) gr8 (by simp; omega))
       have ho8 := own_below ho6 hb8
       have hbr8 := hbr6.trans (hb8.mono (by omega))
       have own8' : w8.ownsRow 0 3 1 (.slice A8 (cast.length + 1) c8) (cast ++ [(k : Int)]).length ((cast ++ [(k : Int)]).flatMap cInt) := by rw [List.length_append, List.flatMap_append]; exact own_mono own8 (Nat.zero_le _)
       have hap8 : Apart (.slice A8 (cast.length + 1) c8) (.slice (some ⟨gv, 0, none⟩) ld.length cd) := fun b hb hb' => by have := (own_lt own8 b hb).1; rw [hd5 b hb'] at this; omega
       have hI := HI.out (cast ++ [(k : Int)]) (fr.set k (fr[k] - 1)) (bump ld k) _ _ w8 (show Hid (_ ∧ _) from ⟨by rw [List.length_append]; exact Hps2.out, by simp; omega⟩) HLS.out hbr8 ho8 own8' hap8
       obtain ⟨cb, hcb⟩ : ∃ cb, canS pl ps (bump ld k) = cb := ⟨_, rfl⟩
       rw [hcb] at hI
       have HCB := Lib.hid hcb
       clear hcb own8 own8' hap8 ho8 gr8 at8 own7 in7 hb7 hb7'
       refine hI.mono ?_
       rintro e w9 ⟨vx, rfl, ho9, hch9⟩
       rw [bump_len] at ho9
       have hc9 := row_cell ho9 (k := k) (by rw [bump_len]; exact hkl)
       have hf9 := ho9.frozenAt k
       have hbk : (bump ld k)[k]'(by rw [bump_len]; exact hkl) = lk + 1 := by simp only [HBU.out, List.getElem_set_self]
       rw [hbk] at hc9
       obtain ⟨l1, hl1⟩ : ∃ l1, lk + 1 = l1 := ⟨_, rfl⟩
       rw [hl1] at hc9
       have hw1 : IntKind.i64.wrap (l1 - 1) = lk := by rw [IntWalk.i64_in _ (by omega)]; omega
       clear hI hl1 hbk
       have HO10 := Lib.hid (row_stored ho9 k lk)
       rw [HUB.out] at HO10
       have HC10 : Hid (Chg (Value.slice (some ⟨gv, 0, none⟩) ld.length cd).ownBlock.toList w5 (w9.setCell ⟨gv, k, none⟩ (.int .i64 lk))) := chg_set (hch6.trans ((Chg.of_below hb8 _).trans hch9)) (by simp [Value.ownBlock])
       clear ho9 hch9 hch6 hb8 hca6 ho6 hbr6 hbr8
       go_upto_region 11 with (fail)
       have ho10 := HO10.out
       have hc10 := HC10.out
       clear HO10 HC10 hc9 hf9 hw1
       generalize w9.setCell ⟨gv, k, none⟩ (.int .i64 lk) = W10 at *
       have hca10 := own_chg hca2 hc10 Hap.out
       have hbr10 := Below.chg hbr2 hc10 hz5 (fun b hb => by rw [hd5 b hb]; exact hgv.1)
       have hch10 := hch2.trans hc10
       cases cb
       ·have HN := Lib.hid (htr.out.sub HCB.out)
        go_wp2_with fail
        go_roundw
        case rel => exact ⟨k + 1, by omega, by go_num, HN.out, hbr10, ho10, hca10, hch10⟩
        case measure => simp [intOf]; omega
       ·have HY := Lib.hid (canS_t hlt HCT.out HCB.out)
        go_wp2_with fail
        go_ret2
        rw [HY.out]
        exact ⟨_, rfl, ho10, hch10⟩
   ·obtain rfl : k = pl.length := by omega
    have HE := Lib.hid htr.out.end_
    go_wp2_with fail
    go_ret2
    rw [HE.out]
    exact ⟨_, rfl, own_below ho ((Below.refl _ _).alloc (Nat.le_refl _) _), hch.alloc _⟩
open Go.RowKit
set_option maxHeartbeats 4000000 in
set_option maxRecDepth 100000 in
theorem specFirstCasting_any (v1 v2 : Value) (ps : List Int) (pl : List RPl) (w : World) (hl : RdPls w v1 pl) (hp : RdL cInt 1 w v2 ps) :
  Calls Tryz.prog 130 #[v1, v2] w (RetCast (canF pl ps) w) := by
 have hl0 := hl
 have hp0 := hp
 obtain ⟨i0, hi0, hz0, hz1, hz2⟩ := info_parts infoInt
 obtain ⟨Al, cl, rfl, _, _⟩ := hl.form
 obtain ⟨Ap, cp, rfl, _, _⟩ := hp.form
 go_enter Tryz.func130, Tryz.ntmps130
 go_wp2_with fail
 refine twoB (specPlayersOk_any _ pl _ hl) (fun w1 hq hb1 => ?_) (fun w1 hq hb1 => ?_)
 ·have hp1 := hp.below hb1
  obtain ⟨h6, h1, _⟩ := playersB_sz hq.out
  have Hfr := Lib.hid (playersB_fr hq.out)
  obtain ⟨sb, hsb⟩ : ∃ sb, strictB ps 0 6 = sb := ⟨_, rfl⟩
  have hC := l11Rising_q _ ps 6 w1 hp1
  have hC' : Calls Tryz.prog 88 #[.slice Ap ps.length cp, .int .i64 6] w1 fun e w' => e = .returned (.bool sb) ∧ ∃ d, w' = w1.drewN d := by rw [← hsb]; exact hC
  have HSB := Lib.hid hsb
  clear hC hsb
  go_wp2_with fail
  refine hC'.mono ?_
  rintro e w2 ⟨rfl, d, rfl⟩
  have hb2 : Below w.heap.size w (w1.drewN d) := below_drewN hb1 d
  clear hC' hp1 hp hl hb1
  generalize w1.drewN d = W at *
  cases sb
  ·have HF := Lib.hid (canF_f2 (pl := pl) HSB.out)
   go_wp2_with fail
   go_ret2
   rw [HF.out]
   exact ⟨_, rfl, hb2.alloc hb2.size _⟩
  ·have h7 := strict_len (m := 6) HSB.out
   have HF := Lib.hid (canF_t hq.out HSB.out)
   have hz := hb2.size
   have hca : (W.alloc (.cells #[] 3)).ownsRow W.heap.size 3 1 (.slice (some ⟨W.heap.size, 0, none⟩) 0 0) 0 [] := World.ownsRow_made (size := 1) (e := 3) W #[] 0 (Nat.le_refl _) (by simp [maxLen]) rfl
   go_wp2_with (at_make; refine wpList_make_full _ rfl _ _ _ rfl (W.heap.size + 1) 3 i0 _ 1 Tryz.underlying26 hi0 hz0 hz1 _ _ _ _ pl.length rfl rfl rfl rfl (by rw [hz2]; omega) (by simp [maxLen]; omega) (by simp) ?_; intro w3 hown hgr)
   have hsz : (W.alloc (.cells #[] 3)).heap.size = W.heap.size + 1 := by simp
   rw [row_made, Nat.mul_one, hsz] at hown
   have hb3 : Below W.heap.size W w3 := ((Below.refl _ _).alloc (Nat.le_refl _) _).grown hgr (by simp) (by simp)
   have hb03 := hb2.trans (hb3.mono hz)
   have hca3 : w3.ownsRow 0 3 1 (.slice (some ⟨W.heap.size, 0, none⟩) 0 0) ([] : List Int).length (([] : List Int).flatMap cInt) := own_mono (own_below hca ((Below.refl _ _).grown hgr (Nat.le_refl _) (by simp))) (Nat.zero_le _)
   have hap : Apart (.slice (some ⟨W.heap.size, 0, none⟩) 0 0) (.slice (some ⟨W.heap.size + 1, 0, none⟩) pl.length pl.length) := fun b hb hb' => by
    simp [Value.ownBlock] at hb hb'; omega
   have hI := search_any w _ _ ps pl hp0 hl0 (by omega) h6 ps [] (pl.map (·.2)) (zeroL pl.length) (.slice (some ⟨W.heap.size, 0, none⟩) 0 0) (.slice (some ⟨W.heap.size + 1, 0, none⟩) pl.length pl.length) w3 (show Hid (_ ∧ _) from ⟨rfl, Nat.zero_le _⟩) (Hands.start Hfr.out) hb03 (by rw [show (zeroL pl.length).length = pl.length by simp [zeroL]]; exact own_mono hown (by omega)) hca3 hap
   obtain ⟨cb, hcb⟩ : ∃ cb, canS pl ps (zeroL pl.length) = cb := ⟨_, rfl⟩
   rw [hcb] at hI HF
   clear hcb
   refine hI.mono ?_
   rintro e w4 ⟨vx, rfl, ho4, hch4⟩
   have hb4 := Below.chg hb03 hch4 hb03.size (fun b hb => by simp [Value.ownBlock] at hb; omega)
   clear hI hca3 hown hgr ho4
   go_wp2_with fail
   go_ret2
   rw [HF.out]
   exact ⟨_, rfl, hb4⟩
 ·have HF := Lib.hid (canF_f1 (ps := ps) hq.out)
  go_wp2_with fail
  go_ret2
  rw [HF.out]
  exact ⟨_, rfl, hb1.alloc hb1.size _⟩
set_option maxHeartbeats 4000000 in
theorem l17Can_any (v1 v2 : Value) (ps : List Int) (pl : List RPl) (w : World) (hl : RdPls w v1 pl) (hp : RdL cInt 1 w v2 ps) :
  Calls Tryz.prog 78 #[v1, v2] w fun e w' => e = .returned (.bool (canF pl ps)) ∧ Below w.heap.size w w' := by
 have hC := specFirstCasting_any v1 v2 ps pl w hl hp
 obtain ⟨Al, cl, rfl, _, _⟩ := hl.form
 obtain ⟨Ap, cp, rfl, _, _⟩ := hp.form
 generalize canF pl ps = cb at *
 go_enter Tryz.func78, Tryz.ntmps78
 go_wp2_with fail
 refine hC.mono ?_
 rintro e w1 ⟨vo, rfl, hb⟩
 go_wp2_with fail
 go_ret
 exact ⟨rfl, hb⟩
end Go.Proofs.YtlhdeojkpmpecaaGreat
