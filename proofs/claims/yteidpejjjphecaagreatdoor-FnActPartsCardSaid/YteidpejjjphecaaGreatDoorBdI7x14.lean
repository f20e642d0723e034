/- Several texts in one: Slices of slices of ints: words and the helpers of the laws. Slices of slices of ints: the marks. Slices of players (a slice of ints and an int each): words. Slices of players: the helpers of the laws. Slices of players: marks. Contracts of the laws' helpers for records Act. Written by a program (gen_rec.py). Contracts: ActOk, toAct, eqAct. Contracts of the laws' helpers for records Cord. Written by a program (gen_rec.py). Contracts of the laws' helpers for records Cross. Written by a program (gen_rec.py). Contracts of the laws' helpers for records Limb. Written by a program (gen_rec.py). The struct Body: to read it, to own it, its marks; contracts of the laws' helpers. Written by a program (gen_struct.py). The struct Company: to read it, to own it, its marks; contracts of the laws' helpers. Written by a program (gen_struct.py). The struct Control: to read it, to own it, its marks; contracts of the laws' helpers. Written by a program (gen_struct.py). The struct Theatre: to read it, to own it, its marks; contracts of the laws' helpers. Written by a program (gen_struct.py). -/
import Derived.StillTailTactics
import Derived.BigQuiet
import Derived.Test.YteidpejjjphecaaGreatDoorBdC1x9
import Derived.Test.YteidpejjjphecaaGreatDoorBdA1x10
namespace Go.Proofs.YteidpejjjphecaaGreatDoor
open Go.RowKit
def cVal (v : Value) : List Value := [v]
theorem cVal_len (v : Value) : (cVal v).length = 1 := rfl
theorem flat_cVal (vs : List Value) : vs.flatMap cVal = vs := by
 induction vs with
 | nil => rfl
 | cons v vs ih => rw [List.flatMap_cons, ih]; rfl
def RdRows (w : World) (v : Value) (ll : List (List Int)) : Prop :=
 ∃ vs : List Value, RdL cVal 1 w v vs ∧ vs.length = ll.length ∧ ∀ (i : Nat) (v' : Value) (l : List Int), vs[i]? = some v' → ll[i]? = some l → RdL cInt 1 w v' l
def blocksOf (vs : List Value) : List Nat := vs.flatMap (fun v => v.ownBlock.toList)
def RowsOwn (ei : TypeId) (w : World) (vs : List Value) (ll : List (List Int)) : Prop :=
 ∀ (i : Nat) (v' : Value) (l : List Int), vs[i]? = some v' → ll[i]? = some l → w.ownsRow 0 ei 1 v' l.length (l.flatMap cInt)
def OwRows (e ei : TypeId) (w : World) (S : List Nat) (v : Value) (ll : List (List Int)) : Prop :=
 ∃ vs : List Value, vs.length = ll.length ∧ w.ownsRow 0 e 1 v vs.length vs ∧ RowsOwn ei w vs ll ∧ S = v.ownBlock.toList ++ blocksOf vs
theorem RdRows.below {w w' : World} {v : Value} {ll : List (List Int)} (h : RdRows w v ll) (hb : Below w.heap.size w w') : RdRows w' v ll := by
 obtain ⟨vs, h1, h2, h3⟩ := h
 exact ⟨vs, h1.below hb, h2, fun i v' l hv hl => (h3 i v' l hv hl).below hb⟩
theorem RdRows.form {w : World} {v : Value} {ll : List (List Int)} (h : RdRows w v ll) : ∃ A c, v = .slice A ll.length c ∧ ll.length ≤ c ∧ c ≤ 9223372036854775807 := by
 obtain ⟨vs, h1, h2, _⟩ := h
 have := h1.form
 rwa [h2] at this
theorem RdRows.cell {w : World} {A : Option Addr} {c : Nat} {ll : List (List Int)} (h : RdRows w (.slice A ll.length c) ll) {k : Nat} (hk : k < ll.length) :
  ∃ g off u, A = some ⟨g, off, none⟩ ∧ g < w.heap.size ∧ w.cell? ⟨g, off + k, none⟩ = some u ∧ RdL cInt 1 w u ll[k] := by
 obtain ⟨vs, h1, h2, h3⟩ := h
 rw [← h2] at h1
 obtain ⟨g, off, hA, hg, hc⟩ := h1.cell (k := k) cVal_len (by omega) (by omega)
 have hk' : k < vs.length := by omega
 refine ⟨g, off, vs[k], hA, hg, ?_, h3 k _ _ (List.getElem?_eq_getElem hk') (List.getElem?_eq_getElem hk)⟩
 have := hc 0 vs[k] rfl
 simpa using this
theorem OwRows.rd {e ei : TypeId} {w : World} {S : List Nat} {v : Value} {ll : List (List Int)} (h : OwRows e ei w S v ll) : RdRows w v ll := by
 obtain ⟨vs, h1, h2, h3, _⟩ := h
 refine ⟨vs, ?_, h1, fun i v' l hv hl => RdS.of_own (h3 i v' l hv hl)⟩
 have := RdS.of_own h2
 rw [← flat_cVal vs] at this
 unfold RdL
 rw [flat_cVal] at this ⊢
 exact this
theorem RowsOwn.below {ei : TypeId} {w w' : World} {vs : List Value} {ll : List (List Int)} (h : RowsOwn ei w vs ll) (hb : Below w.heap.size w w') : RowsOwn ei w' vs ll :=
 fun i v' l hv hl => own_below (h i v' l hv hl) hb
theorem mem_blocks {vs : List Value} {i : Nat} {v : Value} (h : vs[i]? = some v) : ∀ b ∈ v.ownBlock.toList, b ∈ blocksOf vs :=
 fun _ hb => List.mem_flatMap.2 ⟨v, List.mem_of_getElem? h, hb⟩
theorem RowsOwn.chg {ei : TypeId} {w w' : World} {vs : List Value} {ll : List (List Int)} {T : List Nat} (h : RowsOwn ei w vs ll) (hc : Chg T w w') (hn : ∀ b ∈ blocksOf vs, b ∉ T) : RowsOwn ei w' vs ll :=
 fun i v' l hv hl => own_chg (h i v' l hv hl) hc (fun b hb => hn b (mem_blocks hv b hb))
theorem OwRows.below {e ei : TypeId} {w w' : World} {S : List Nat} {v : Value} {ll : List (List Int)} (h : OwRows e ei w S v ll) (hb : Below w.heap.size w w') : OwRows e ei w' S v ll := by
 obtain ⟨vs, h1, h2, h3, h4⟩ := h
 exact ⟨vs, h1, own_below h2 hb, h3.below hb, h4⟩
theorem OwRows.chg {e ei : TypeId} {w w' : World} {S T : List Nat} {v : Value} {ll : List (List Int)} (h : OwRows e ei w S v ll) (hc : Chg T w w') (hn : ∀ b ∈ S, b ∉ T) : OwRows e ei w' S v ll := by
 obtain ⟨vs, h1, h2, h3, rfl⟩ := h
 exact ⟨vs, h1, own_chg h2 hc (fun b hb => hn b (by simp [hb])), h3.chg hc (fun b hb => hn b (by simp [hb])), rfl⟩
theorem infoRow : (Tryz.prog.info? 28).map (fun i => (i.zero, i.size, i.bytes)) = some (some (.slice none 0 0), 1, 24) := by kernel_rfl
theorem blocks_snoc (vs : List Value) (v : Value) : blocksOf (vs ++ [v]) = blocksOf vs ++ v.ownBlock.toList := by unfold blocksOf; rw [List.flatMap_append]; simp
open Go.RowKit
theorem blocks_apart {vs : List Value} (h : (blocksOf vs).Nodup) {k : Nat} {v : Value} (hv : vs[k]? = some v) : ∀ b ∈ v.ownBlock.toList, b ∉ blocksOf (vs.take k) := by
 intro b hb hm
 have hk := (List.getElem?_eq_some_iff.1 hv).1
 have e : vs = vs.take k ++ v :: vs.drop (k + 1) := by
  have := List.getElem_cons_drop hk
  rw [(List.getElem?_eq_some_iff.1 hv).2] at this
  rw [this, List.take_append_drop]
 rw [e, blocksOf, List.flatMap_append] at h
 have := (List.nodup_append.1 h).2.2 b hm b (by rw [List.flatMap_cons]; exact List.mem_append_left _ hb)
 exact this rfl
open Go.RowKit
abbrev RPl := List Int × Int
def cPl (p : Value × Int) : List Value := [p.1, .int .i64 p.2]
theorem cPl_len (p : Value × Int) : (cPl p).length = 2 := rfl
theorem infoPlayer : (Tryz.prog.info? 55).map (fun i => (i.zero, i.size, i.bytes)) = some (some (.agg #[.slice none 0 0, .int .i64 0]), 2, 32) := by kernel_rfl
def PlsRd (w : World) (vs : List (Value × Int)) (ll : List RPl) : Prop := ∀ (i : Nat) (p : Value × Int) (r : RPl), vs[i]? = some p → ll[i]? = some r → p.2 = r.2 ∧ RdL cInt 1 w p.1 r.1
def RdPls (w : World) (v : Value) (ll : List RPl) : Prop := ∃ vs : List (Value × Int), RdL cPl 2 w v vs ∧ vs.length = ll.length ∧ PlsRd w vs ll
def plBlocks (vs : List (Value × Int)) : List Nat := blocksOf (vs.map Prod.fst)
def PlsOwn (w : World) (vs : List (Value × Int)) (ll : List RPl) : Prop := ∀ (i : Nat) (p : Value × Int) (r : RPl), vs[i]? = some p → ll[i]? = some r → p.2 = r.2 ∧ w.ownsRow 0 3 1 p.1 r.1.length (r.1.flatMap cInt)
def OwPls (w : World) (S : List Nat) (v : Value) (ll : List RPl) : Prop :=
 ∃ vs : List (Value × Int), vs.length = ll.length ∧ w.ownsRow 0 55 2 v vs.length (vs.flatMap cPl) ∧ PlsOwn w vs ll ∧ S = v.ownBlock.toList ++ plBlocks vs
def plsTot (ll : List RPl) : Nat := ll.length + (ll.map (fun r => r.1.length)).sum
def plsTo (ll : List RPl) (k : Nat) : Nat := ((ll.take k).map (fun r => r.1.length + 1)).sum
def plsCnt (ll : List RPl) : Nat := (ll.map (fun r => r.1.length + 1)).sum
def PlsMk (w : World) (vs : List (Value × Int)) (ll : List RPl) (m : Int) : Prop := ∀ (i : Nat) (p : Value × Int) (r : RPl), vs[i]? = some p → ll[i]? = some r → p.2 = m + plsTo ll i + r.1.length ∧ w.ownsRow 0 3 1 p.1 r.1.length (markC mkInt 1 r.1.length (m + plsTo ll i))
def MkPls (w : World) (S : List Nat) (v : Value) (ll : List RPl) (m : Int) : Prop :=
 ∃ vs : List (Value × Int), vs.length = ll.length ∧ w.ownsRow 0 55 2 v vs.length (vs.flatMap cPl) ∧ PlsMk w vs ll m ∧ S = v.ownBlock.toList ++ plBlocks vs
theorem plsTo_succ {ll : List RPl} {k : Nat} (h : k < ll.length) : plsTo ll (k + 1) = plsTo ll k + (ll[k].1.length + 1) := sum_take_succ (fun r : RPl => r.1.length + 1) ll h
theorem plsTo_end (ll : List RPl) : plsTo ll ll.length = plsCnt ll := by unfold plsTo plsCnt; rw [List.take_length]
theorem plsCnt_tot (ll : List RPl) : plsCnt ll = plsTot ll := by
 unfold plsCnt plsTot
 induction ll with
 | nil => rfl
 | cons a l ih => simp only [List.map_cons, List.sum_cons, List.length_cons]; omega
theorem plsTo_le {ll : List RPl} {k : Nat} (h : k < ll.length) : plsTo ll k + (ll[k].1.length + 1) ≤ plsCnt ll := by
 rw [← plsTo_succ h, ← plsTo_end]
 unfold plsTo
 rw [List.take_length]
 conv => rhs; rw [← List.take_append_drop (k + 1) ll, List.map_append, List.sum_append_nat]
 omega
theorem mem_plBlocks {vs : List (Value × Int)} {i : Nat} {p : Value × Int} (h : vs[i]? = some p) : ∀ b ∈ p.1.ownBlock.toList, b ∈ plBlocks vs :=
 mem_blocks (i := i) (by rw [List.getElem?_map, h]; rfl)
theorem plBlocks_snoc (vs : List (Value × Int)) (p : Value × Int) : plBlocks (vs ++ [p]) = plBlocks vs ++ p.1.ownBlock.toList := by
 unfold plBlocks; rw [List.map_append]; exact blocks_snoc _ _
section
variable {w w' : World} {S T : List Nat} {v : Value} {ll : List RPl} {m : Int}
theorem RdPls.below (h : RdPls w v ll) (hb : Below w.heap.size w w') : RdPls w' v ll := by
 obtain ⟨vs, h1, h2, h3⟩ := h
 exact ⟨vs, h1.below hb, h2, fun i p r hp hr => ⟨(h3 i p r hp hr).1, (h3 i p r hp hr).2.below hb⟩⟩
theorem RdPls.form (h : RdPls w v ll) : ∃ A c, v = .slice A ll.length c ∧ ll.length ≤ c ∧ c ≤ 9223372036854775807 := by
 obtain ⟨vs, h1, h2, _⟩ := h
 have := h1.form
 rwa [h2] at this
theorem RdPls.cell {A : Option Addr} {c : Nat} (h : RdPls w (.slice A ll.length c) ll) {k : Nat} (hk : k < ll.length) :
  ∃ g off u, A = some ⟨g, off, none⟩ ∧ g < w.heap.size ∧ w.cell? ⟨g, off + k * 2, none⟩ = some u ∧ w.cell? ⟨g, off + k * 2 + 1, none⟩ = some (.int .i64 ll[k].2) ∧ RdL cInt 1 w u ll[k].1 := by
 obtain ⟨vs, h1, h2, h3⟩ := h
 rw [← h2] at h1
 obtain ⟨g, off, hA, hg, hc⟩ := h1.cell (k := k) cPl_len (by omega) (by omega)
 have hk' : k < vs.length := by omega
 obtain ⟨e, hr⟩ := h3 k _ _ (List.getElem?_eq_getElem hk') (List.getElem?_eq_getElem hk)
 have c0 := hc 0 _ rfl
 have c1 := hc 1 _ rfl
 rw [e] at c1
 exact ⟨g, off, vs[k].1, hA, hg, by simpa using c0, c1, hr⟩
theorem OwPls.rd (h : OwPls w S v ll) : RdPls w v ll := by
 obtain ⟨vs, h1, h2, h3, _⟩ := h
 exact ⟨vs, RdS.of_own h2, h1, fun i p r hp hr => ⟨(h3 i p r hp hr).1, RdS.of_own (h3 i p r hp hr).2⟩⟩
theorem OwPls.below (h : OwPls w S v ll) (hb : Below w.heap.size w w') : OwPls w' S v ll := by
 obtain ⟨vs, h1, h2, h3, h4⟩ := h
 exact ⟨vs, h1, own_below h2 hb, fun i p r hp hr => ⟨(h3 i p r hp hr).1, own_below (h3 i p r hp hr).2 hb⟩, h4⟩
theorem OwPls.chg (h : OwPls w S v ll) (hc : Chg T w w') (hn : ∀ b ∈ S, b ∉ T) : OwPls w' S v ll := by
 obtain ⟨vs, h1, h2, h3, rfl⟩ := h
 exact ⟨vs, h1, own_chg h2 hc (fun b hb => hn b (by simp [hb])), fun i p r hp hr => ⟨(h3 i p r hp hr).1, own_chg (h3 i p r hp hr).2 hc (fun b hb => hn b (List.mem_append_right _ (mem_plBlocks hp b hb)))⟩, rfl⟩
theorem MkPls.below (h : MkPls w S v ll m) (hb : Below w.heap.size w w') : MkPls w' S v ll m := by
 obtain ⟨vs, h1, h2, h3, h4⟩ := h
 exact ⟨vs, h1, own_below h2 hb, fun i p r hp hr => ⟨(h3 i p r hp hr).1, own_below (h3 i p r hp hr).2 hb⟩, h4⟩
theorem MkPls.chg (h : MkPls w S v ll m) (hc : Chg T w w') (hn : ∀ b ∈ S, b ∉ T) : MkPls w' S v ll m := by
 obtain ⟨vs, h1, h2, h3, rfl⟩ := h
 exact ⟨vs, h1, own_chg h2 hc (fun b hb => hn b (by simp [hb])), fun i p r hp hr => ⟨(h3 i p r hp hr).1, own_chg (h3 i p r hp hr).2 hc (fun b hb => hn b (List.mem_append_right _ (mem_plBlocks hp b hb)))⟩, rfl⟩
theorem OwPls.empty (w : World) : OwPls w [] (.slice none 0 0) [] := ⟨[], rfl, World.ownsRow_nil _ _ _ _, fun i p r hp => by simp at hp, rfl⟩
end
open Go.RowKit
open Go.RowKit
open Go.RowKit
abbrev RAct := Int × Int × Int
def cAct (t : RAct) : List Value := [.int .i64 t.1, .int .i64 t.2.1, .int .i64 t.2.2]
theorem cAct_len (a : RAct) : (cAct a).length = 3 := rfl
theorem infoAct : (Tryz.prog.info? 49).map (fun i => (i.zero, i.size, i.bytes)) = some (some (.agg #[.int .i64 0, .int .i64 0, .int .i64 0]), 3, 24) := by kernel_rfl
open Go.RowKit
def actB (k a b : Int) : Bool :=
 if k = 1 then inB a 0 2 && b == 0
 else if k = 2 then inB a 0 5 && inB b 0 6
 else if k = 3 then inB a 0 5 && b == 0
 else if k = 4 then inB a 0 5 && b == 0
 else if k = 6 then inB a 0 365 && b == 0
 else if k = 5 then a == 0 && b == 0
 else if k = 7 then a == 0 && b == 0 else false
set_option maxHeartbeats 4000000 in
theorem implActOk_any (k a b : Int) (w : World) :
  Calls Tryz.prog 33 #[.agg #[.int .i64 k, .int .i64 a, .int .i64 b]] w fun e w' => e = .returned (.bool (actB k a b)) ∧ Below w.heap.size w w' := by
 have H : ∀ r, r = actB k a b → Ending.returned (.bool r) = .returned (.bool (actB k a b)) := fun r h => by rw [h]
 have H' := Lib.hid H
 clear H
 by_cases hk : k = 1 ∨ k = 2 ∨ k = 3 ∨ k = 4 ∨ k = 5 ∨ k = 6 ∨ k = 7
 ·rcases hk with rfl | rfl | rfl | rfl | rfl | rfl | rfl
  all_goals
   by_cases ha : a = 0 <;> by_cases hb : b = 0
   all_goals
    first | have ha1 : (a == 0) = true := by simp [ha] | have ha1 : (a == 0) = false := by simp [ha]
    first | have hb1 : (b == 0) = true := by simp [hb] | have hb1 : (b == 0) = false := by simp [hb]
    clear ha hb
    go_enter Tryz.func33, Tryz.ntmps33
    go_wp2_with (go_at_call 32; refine two (within_any _ _ _ _) (fun hc => ?_) (fun hc => ?_))
    all_goals
     go_ret
     refine ⟨H'.out _ ?_, by (repeat' (first | exact Below.refl _ _ | refine qS ?_ _ | refine qA ?_ _ | refine qD ?_ | refine qN ?_ _ | refine qT ?_ (by assumption)))⟩
     simp_all [Hid, actB]
 ·have h1 : (k == 1) = false := by simp; omega
  have h2 : (k == 2) = false := by simp; omega
  have h3 : (k == 3) = false := by simp; omega
  have h4 : (k == 4) = false := by simp; omega
  have h5 : (k == 5) = false := by simp; omega
  have h6 : (k == 6) = false := by simp; omega
  have h7 : (k == 7) = false := by simp; omega
  have hz : actB k a b = false := by
   unfold actB
   rw [if_neg (by omega), if_neg (by omega), if_neg (by omega), if_neg (by omega), if_neg (by omega), if_neg (by omega), if_neg (by omega)]
  have hz' := Lib.hid hz
  clear hz hk
  go_enter Tryz.func33, Tryz.ntmps33
  go_wp2_with fail
  go_ret
  exact ⟨H'.out _ hz'.out.symm, by (repeat' (first | exact Below.refl _ _ | refine qS ?_ _ | refine qA ?_ _ | refine qD ?_ | refine qN ?_ _ | refine qT ?_ (by assumption)))⟩
open Go.RowKit
abbrev RCord := Int × Int × Int
def cCord (t : RCord) : List Value := [.int .i64 t.1, .int .i64 t.2.1, .int .i64 t.2.2]
open Go.RowKit
abbrev RCross := Int × Bool
def cCross (t : RCross) : List Value := [.int .i64 t.1, .bool t.2]
theorem cCross_len (a : RCross) : (cCross a).length = 2 := rfl
def mkCross (k : Int) : List Value := [.int .i64 k, .bool ((k + 1) % 3 == 0)]
theorem infoCross : (Tryz.prog.info? 79).map (fun i => (i.zero, i.size, i.bytes)) = some (some (.agg #[.int .i64 0, .bool false]), 2, 16) := by kernel_rfl
open Go.RowKit
abbrev RLimb := Int × Int × Int
def cLimb (t : RLimb) : List Value := [.int .i64 t.1, .int .i64 t.2.1, .int .i64 t.2.2]
open Go.RowKit
def RdBody (w : World) (x1 : Value) (d1 : List RLimb) : Prop := RdL cLimb 3 w x1 d1
section
variable {w w' : World} {S T : List Nat} {x1 : Value} {d1 : List RLimb} {m : Int}
theorem RdBody.below (h : RdBody w x1 d1) (hb : Below w.heap.size w w') : RdBody w' x1 d1 := by
 have h1 : RdL cLimb 3 w x1 d1 := h
 exact h1.below hb
theorem RdBody.forms (h : RdBody w x1 d1) : (∃ A c, x1 = .slice A d1.length c) := by
 have h1 : RdL cLimb 3 w x1 d1 := h
 have f1 : (∃ A c, x1 = .slice A d1.length c) := by obtain ⟨A, c, e, _⟩ := h1.form; exact ⟨A, c, e⟩
 exact f1
end
open Go.RowKit
def RdCompany (w : World) (x1 x2 : Value) (d1 : List RCross) (d2 : List RPl) : Prop := RdL cCross 2 w x1 d1 ∧ RdPls w x2 d2
def OwCompany (w : World) (S : List Nat) (x1 x2 : Value) (d1 : List RCross) (d2 : List RPl) : Prop := ∃ S1 S2, S = S1 ++ S2 ∧ OwL 79 cCross 2 w (S1) x1 d1 ∧ OwPls w (S2) x2 d2
def szCompany (d1 : List RCross) (d2 : List RPl) : Nat := d1.length + plsTot d2
def cntCompany (d1 : List RCross) (d2 : List RPl) : Nat := d1.length * 2 + plsCnt d2
def MkCompany (w : World) (S : List Nat) (x1 x2 : Value) (d1 : List RCross) (d2 : List RPl) (m : Int) : Prop := ∃ S1 S2, S = S1 ++ S2 ∧ MkL 79 mkCross 2 w (S1) x1 d1.length m ∧ MkPls w (S2) x2 d2 (m + d1.length * 2)
section
variable {w w' : World} {S T : List Nat} {x1 x2 : Value} {d1 : List RCross} {d2 : List RPl} {m : Int}
theorem RdCompany.below (h : RdCompany w x1 x2 d1 d2) (hb : Below w.heap.size w w') : RdCompany w' x1 x2 d1 d2 := by
 obtain ⟨h1, h2⟩ := h
 exact ⟨h1.below hb, h2.below hb⟩
theorem RdCompany.forms (h : RdCompany w x1 x2 d1 d2) : (∃ A c, x1 = .slice A d1.length c) ∧ (∃ A c, x2 = .slice A d2.length c) := by
 obtain ⟨h1, h2⟩ := h
 have f1 : (∃ A c, x1 = .slice A d1.length c) := by obtain ⟨A, c, e, _⟩ := h1.form; exact ⟨A, c, e⟩
 have f2 : (∃ A c, x2 = .slice A d2.length c) := by obtain ⟨A, c, e, _⟩ := h2.form; exact ⟨A, c, e⟩
 exact ⟨f1, f2⟩
theorem OwCompany.rd (h : OwCompany w S x1 x2 d1 d2) : RdCompany w x1 x2 d1 d2 := by
 obtain ⟨S1, S2, _, h1, h2⟩ := h
 exact ⟨h1.rd, h2.rd⟩
theorem OwCompany.below (h : OwCompany w S x1 x2 d1 d2) (hb : Below w.heap.size w w') : OwCompany w' S x1 x2 d1 d2 := by
 obtain ⟨S1, S2, e, h1, h2⟩ := h
 exact ⟨S1, S2, e, h1.below hb, h2.below hb⟩
theorem OwCompany.chg (h : OwCompany w S x1 x2 d1 d2) (hc : Chg T w w') (hn : ∀ b ∈ S, b ∉ T) : OwCompany w' S x1 x2 d1 d2 := by
 obtain ⟨S1, S2, e, h1, h2⟩ := h
 exact ⟨S1, S2, e, h1.chg hc (fun b hb => hn b (by rw [e]; first | exact hb | exact List.mem_append_left _ hb | exact List.mem_append_right _ hb | exact List.mem_append_left _ (List.mem_append_left _ hb) | exact List.mem_append_left _ (List.mem_append_right _ hb) | exact List.mem_append_right _ (List.mem_append_left _ hb) | exact List.mem_append_right _ (List.mem_append_right _ hb))), h2.chg hc (fun b hb => hn b (by rw [e]; first | exact hb | exact List.mem_append_left _ hb | exact List.mem_append_right _ hb | exact List.mem_append_left _ (List.mem_append_left _ hb) | exact List.mem_append_left _ (List.mem_append_right _ hb) | exact List.mem_append_right _ (List.mem_append_left _ hb) | exact List.mem_append_right _ (List.mem_append_right _ hb)))⟩
theorem MkCompany.below (h : MkCompany w S x1 x2 d1 d2 m) (hb : Below w.heap.size w w') : MkCompany w' S x1 x2 d1 d2 m := by
 obtain ⟨S1, S2, e, h1, h2⟩ := h
 exact ⟨S1, S2, e, h1.below hb, h2.below hb⟩
theorem MkCompany.chg (h : MkCompany w S x1 x2 d1 d2 m) (hc : Chg T w w') (hn : ∀ b ∈ S, b ∉ T) : MkCompany w' S x1 x2 d1 d2 m := by
 obtain ⟨S1, S2, e, h1, h2⟩ := h
 exact ⟨S1, S2, e, h1.chg hc (fun b hb => hn b (by rw [e]; first | exact hb | exact List.mem_append_left _ hb | exact List.mem_append_right _ hb | exact List.mem_append_left _ (List.mem_append_left _ hb) | exact List.mem_append_left _ (List.mem_append_right _ hb) | exact List.mem_append_right _ (List.mem_append_left _ hb) | exact List.mem_append_right _ (List.mem_append_right _ hb))), h2.chg hc (fun b hb => hn b (by rw [e]; first | exact hb | exact List.mem_append_left _ hb | exact List.mem_append_right _ hb | exact List.mem_append_left _ (List.mem_append_left _ hb) | exact List.mem_append_left _ (List.mem_append_right _ hb) | exact List.mem_append_right _ (List.mem_append_left _ hb) | exact List.mem_append_right _ (List.mem_append_right _ hb)))⟩
end
def ToCompany (a0 : Int) (d1 : List RCross) (d2 : List RPl) (w : World) (e : Ending) (w' : World) : Prop :=
 ∃ x1 x2 S, e = .returned (.agg #[.int .i64 a0, x1, x2]) ∧ OwCompany w' S x1 x2 d1 d2 ∧ Fresh w.heap.size w' S ∧ Below w.heap.size w w'
open Go.RowKit
def RdControl (w : World) (x1 x2 : Value) (d1 : List Int) (d2 : List RCord) : Prop := RdL cInt 1 w x1 d1 ∧ RdL cCord 3 w x2 d2
section
variable {w w' : World} {S T : List Nat} {x1 x2 : Value} {d1 : List Int} {d2 : List RCord} {m : Int}
theorem RdControl.below (h : RdControl w x1 x2 d1 d2) (hb : Below w.heap.size w w') : RdControl w' x1 x2 d1 d2 := by
 obtain ⟨h1, h2⟩ := h
 exact ⟨h1.below hb, h2.below hb⟩
theorem RdControl.forms (h : RdControl w x1 x2 d1 d2) : (∃ A c, x1 = .slice A d1.length c) ∧ (∃ A c, x2 = .slice A d2.length c) := by
 obtain ⟨h1, h2⟩ := h
 have f1 : (∃ A c, x1 = .slice A d1.length c) := by obtain ⟨A, c, e, _⟩ := h1.form; exact ⟨A, c, e⟩
 have f2 : (∃ A c, x2 = .slice A d2.length c) := by obtain ⟨A, c, e, _⟩ := h2.form; exact ⟨A, c, e⟩
 exact ⟨f1, f2⟩
end
open Go.RowKit
def RdTheatre (w : World) (x1 x2 x3 : Value) (d1 : List RCross) (d2 : List RPl) (d3 : List Int) : Prop := RdCompany w x1 x2 d1 d2 ∧ RdL cInt 1 w x3 d3
def OwTheatre (w : World) (S : List Nat) (x1 x2 x3 : Value) (d1 : List RCross) (d2 : List RPl) (d3 : List Int) : Prop := ∃ S1 S3, S = S1 ++ S3 ∧ OwCompany w (S1) x1 x2 d1 d2 ∧ OwL 3 cInt 1 w (S3) x3 d3
def szTheatre (d1 : List RCross) (d2 : List RPl) (d3 : List Int) : Nat := szCompany d1 d2 + d3.length
def MkTheatre (w : World) (S : List Nat) (x1 x2 x3 : Value) (d1 : List RCross) (d2 : List RPl) (d3 : List Int) (m : Int) : Prop := ∃ S1 S3, S = S1 ++ S3 ∧ MkCompany w (S1) x1 x2 d1 d2 m ∧ MkL 3 mkInt 1 w (S3) x3 d3.length (m + cntCompany d1 d2)
section
variable {w w' : World} {S T : List Nat} {x1 x2 x3 : Value} {d1 : List RCross} {d2 : List RPl} {d3 : List Int} {m : Int}
theorem RdTheatre.below (h : RdTheatre w x1 x2 x3 d1 d2 d3) (hb : Below w.heap.size w w') : RdTheatre w' x1 x2 x3 d1 d2 d3 := by
 obtain ⟨h1, h3⟩ := h
 exact ⟨h1.below hb, h3.below hb⟩
theorem RdTheatre.forms (h : RdTheatre w x1 x2 x3 d1 d2 d3) : (∃ A c, x1 = .slice A d1.length c) ∧ (∃ A c, x2 = .slice A d2.length c) ∧ (∃ A c, x3 = .slice A d3.length c) := by
 obtain ⟨h1, h3⟩ := h
 have f1 := h1.forms
 obtain ⟨p1, p2⟩ := f1
 have f3 : (∃ A c, x3 = .slice A d3.length c) := by obtain ⟨A, c, e, _⟩ := h3.form; exact ⟨A, c, e⟩
 exact ⟨p1, p2, f3⟩
theorem OwTheatre.rd (h : OwTheatre w S x1 x2 x3 d1 d2 d3) : RdTheatre w x1 x2 x3 d1 d2 d3 := by
 obtain ⟨S1, S3, _, h1, h3⟩ := h
 exact ⟨h1.rd, h3.rd⟩
theorem OwTheatre.below (h : OwTheatre w S x1 x2 x3 d1 d2 d3) (hb : Below w.heap.size w w') : OwTheatre w' S x1 x2 x3 d1 d2 d3 := by
 obtain ⟨S1, S3, e, h1, h3⟩ := h
 exact ⟨S1, S3, e, h1.below hb, h3.below hb⟩
theorem OwTheatre.chg (h : OwTheatre w S x1 x2 x3 d1 d2 d3) (hc : Chg T w w') (hn : ∀ b ∈ S, b ∉ T) : OwTheatre w' S x1 x2 x3 d1 d2 d3 := by
 obtain ⟨S1, S3, e, h1, h3⟩ := h
 exact ⟨S1, S3, e, h1.chg hc (fun b hb => hn b (by rw [e]; first | exact hb | exact List.mem_append_left _ hb | exact List.mem_append_right _ hb | exact List.mem_append_left _ (List.mem_append_left _ hb) | exact List.mem_append_left _ (List.mem_append_right _ hb) | exact List.mem_append_right _ (List.mem_append_left _ hb) | exact List.mem_append_right _ (List.mem_append_right _ hb))), h3.chg hc (fun b hb => hn b (by rw [e]; first | exact hb | exact List.mem_append_left _ hb | exact List.mem_append_right _ hb | exact List.mem_append_left _ (List.mem_append_left _ hb) | exact List.mem_append_left _ (List.mem_append_right _ hb) | exact List.mem_append_right _ (List.mem_append_left _ hb) | exact List.mem_append_right _ (List.mem_append_right _ hb)))⟩
theorem MkTheatre.below (h : MkTheatre w S x1 x2 x3 d1 d2 d3 m) (hb : Below w.heap.size w w') : MkTheatre w' S x1 x2 x3 d1 d2 d3 m := by
 obtain ⟨S1, S3, e, h1, h3⟩ := h
 exact ⟨S1, S3, e, h1.below hb, h3.below hb⟩
theorem MkTheatre.chg (h : MkTheatre w S x1 x2 x3 d1 d2 d3 m) (hc : Chg T w w') (hn : ∀ b ∈ S, b ∉ T) : MkTheatre w' S x1 x2 x3 d1 d2 d3 m := by
 obtain ⟨S1, S3, e, h1, h3⟩ := h
 exact ⟨S1, S3, e, h1.chg hc (fun b hb => hn b (by rw [e]; first | exact hb | exact List.mem_append_left _ hb | exact List.mem_append_right _ hb | exact List.mem_append_left _ (List.mem_append_left _ hb) | exact List.mem_append_left _ (List.mem_append_right _ hb) | exact List.mem_append_right _ (List.mem_append_left _ hb) | exact List.mem_append_right _ (List.mem_append_right _ hb))), h3.chg hc (fun b hb => hn b (by rw [e]; first | exact hb | exact List.mem_append_left _ hb | exact List.mem_append_right _ hb | exact List.mem_append_left _ (List.mem_append_left _ hb) | exact List.mem_append_left _ (List.mem_append_right _ hb) | exact List.mem_append_right _ (List.mem_append_left _ hb) | exact List.mem_append_right _ (List.mem_append_right _ hb)))⟩
end
def ToTheatre (a0 : Int) (a4 : Int) (d1 : List RCross) (d2 : List RPl) (d3 : List Int) (w : World) (e : Ending) (w' : World) : Prop :=
 ∃ x1 x2 x3 S, e = .returned (.agg #[.int .i64 a0, x1, x2, x3, .int .i64 a4]) ∧ OwTheatre w' S x1 x2 x3 d1 d2 d3 ∧ Fresh w.heap.size w' S ∧ Below w.heap.size w w'
end Go.Proofs.YteidpejjjphecaaGreatDoor
