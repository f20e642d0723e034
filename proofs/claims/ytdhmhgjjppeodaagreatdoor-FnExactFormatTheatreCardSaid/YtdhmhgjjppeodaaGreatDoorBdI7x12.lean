/- Several texts in one: Slices of slices of ints: words and the helpers of the laws. Slices of slices of ints: the marks. Slices of players (a slice of ints and an int each): words. Slices of players: the helpers of the laws. Slices of players: marks. Contracts of the laws' helpers for records Act. Written by a program (gen_rec.py). Contracts: ActOk, toAct, eqAct. Contracts of the laws' helpers for records Cord. Written by a program (gen_rec.py). Contracts of the laws' helpers for records Cross. Written by a program (gen_rec.py). The struct Company: to read it, to own it, its marks; contracts of the laws' helpers. Written by a program (gen_struct.py). The struct Control: to read it, to own it, its marks; contracts of the laws' helpers. Written by a program (gen_struct.py). The struct Theatre: to read it, to own it, its marks; contracts of the laws' helpers. Written by a program (gen_struct.py). -/
import Derived.StillTailTactics
import Derived.BigQuiet
import Derived.Test.YtdhmhgjjppeodaaGreatDoorBdC1x9
import Derived.Test.YtdhmhgjjppeodaaGreatDoorBdA1x8
namespace Go.Proofs.YtdhmhgjjppeodaaGreatDoor
open Go.RowKit
def cVal (v : Value) : List Value := [v]
theorem cVal_len (v : Value) : (cVal v).length = 1 := rfl
theorem flat_cVal (vs : List Value) : vs.flatMap cVal = vs := by
 induction vs with
 | nil => rfl
 | cons v vs ih => rw [List.flatMap_cons, ih]; rfl
def RdRows (w : World) (v : Value) (ll : List (List Int)) : Prop :=
 ∃ vs : List Value, RdL cVal 1 w v vs ∧ vs.length = ll.length ∧ ∀ (i : Nat) (v' : Value) (l : List Int), vs[i]? = some v' → ll[i]? = some l → RdL cInt 1 w v' l
def blocksOf (vs : List Value) : List Nat := vs.flatMap (fun v => v.ownBlock.toList)
def RowsOwn (ei : TypeId) (w : World) (vs : List Value) (ll : List (List Int)) : Prop :=
 ∀ (i : Nat) (v' : Value) (l : List Int), vs[i]? = some v' → ll[i]? = some l → w.ownsRow 0 ei 1 v' l.length (l.flatMap cInt)
def OwRows (e ei : TypeId) (w : World) (S : List Nat) (v : Value) (ll : List (List Int)) : Prop :=
 ∃ vs : List Value, vs.length = ll.length ∧ w.ownsRow 0 e 1 v vs.length vs ∧ RowsOwn ei w vs ll ∧ S = v.ownBlock.toList ++ blocksOf vs
theorem RdRows.below {w w' : World} {v : Value} {ll : List (List Int)} (h : RdRows w v ll) (hb : Below w.heap.size w w') : RdRows w' v ll := by
 obtain ⟨vs, h1, h2, h3⟩ := h
 exact ⟨vs, h1.below hb, h2, fun i v' l hv hl => (h3 i v' l hv hl).below hb⟩
theorem RdRows.form {w : World} {v : Value} {ll : List (List Int)} (h : RdRows w v ll) : ∃ A c, v = .slice A ll.length c ∧ ll.length ≤ c ∧ c ≤ 9223372036854775807 := by
 obtain ⟨vs, h1, h2, _⟩ := h
 have := h1.form
 rwa [h2] at this
theorem RdRows.cell {w : World} {A : Option Addr} {c : Nat} {ll : List (List Int)} (h : RdRows w (.slice A ll.length c) ll) {k : Nat} (hk : k < ll.length) :
  ∃ g off u, A = some ⟨g, off, none⟩ ∧ g < w.heap.size ∧ w.cell? ⟨g, off + k, none⟩ = some u ∧ RdL cInt 1 w u ll[k] := by
 obtain ⟨vs, h1, h2, h3⟩ := h
 rw [← h2] at h1
 obtain ⟨g, off, hA, hg, hc⟩ := h1.cell (k := k) cVal_len (by omega) (by omega)
 have hk' : k < vs.length := by omega
 refine ⟨g, off, vs[k], hA, hg, ?_, h3 k _ _ (List.getElem?_eq_getElem hk') (List.getElem?_eq_getElem hk)⟩
 have := hc 0 vs[k] rfl
 simpa using this
theorem OwRows.rd {e ei : TypeId} {w : World} {S : List Nat} {v : Value} {ll : List (List Int)} (h : OwRows e ei w S v ll) : RdRows w v ll := by
 obtain ⟨vs, h1, h2, h3, _⟩ := h
 refine ⟨vs, ?_, h1, fun i v' l hv hl => RdS.of_own (h3 i v' l hv hl)⟩
 have := RdS.of_own h2
 rw [← flat_cVal vs] at this
 unfold RdL
 rw [flat_cVal] at this ⊢
 exact this
theorem RowsOwn.below {ei : TypeId} {w w' : World} {vs : List Value} {ll : List (List Int)} (h : RowsOwn ei w vs ll) (hb : Below w.heap.size w w') : RowsOwn ei w' vs ll :=
 fun i v' l hv hl => own_below (h i v' l hv hl) hb
theorem mem_blocks {vs : List Value} {i : Nat} {v : Value} (h : vs[i]? = some v) : ∀ b ∈ v.ownBlock.toList, b ∈ blocksOf vs :=
 fun _ hb => List.mem_flatMap.2 ⟨v, List.mem_of_getElem? h, hb⟩
theorem RowsOwn.chg {ei : TypeId} {w w' : World} {vs : List Value} {ll : List (List Int)} {T : List Nat} (h : RowsOwn ei w vs ll) (hc : Chg T w w') (hn : ∀ b ∈ blocksOf vs, b ∉ T) : RowsOwn ei w' vs ll :=
 fun i v' l hv hl => own_chg (h i v' l hv hl) hc (fun b hb => hn b (mem_blocks hv b hb))
theorem OwRows.below {e ei : TypeId} {w w' : World} {S : List Nat} {v : Value} {ll : List (List Int)} (h : OwRows e ei w S v ll) (hb : Below w.heap.size w w') : OwRows e ei w' S v ll := by
 obtain ⟨vs, h1, h2, h3, h4⟩ := h
 exact ⟨vs, h1, own_below h2 hb, h3.below hb, h4⟩
theorem OwRows.chg {e ei : TypeId} {w w' : World} {S T : List Nat} {v : Value} {ll : List (List Int)} (h : OwRows e ei w S v ll) (hc : Chg T w w') (hn : ∀ b ∈ S, b ∉ T) : OwRows e ei w' S v ll := by
 obtain ⟨vs, h1, h2, h3, rfl⟩ := h
 exact ⟨vs, h1, own_chg h2 hc (fun b hb => hn b (by simp [hb])), h3.chg hc (fun b hb => hn b (by simp [hb])), rfl⟩
theorem infoRow : (Tryz.prog.info? 28).map (fun i => (i.zero, i.size, i.bytes)) = some (some (.slice none 0 0), 1, 24) := by kernel_rfl
theorem blocks_snoc (vs : List Value) (v : Value) : blocksOf (vs ++ [v]) = blocksOf vs ++ v.ownBlock.toList := by unfold blocksOf; rw [List.flatMap_append]; simp
open Go.RowKit
theorem blocks_apart {vs : List Value} (h : (blocksOf vs).Nodup) {k : Nat} {v : Value} (hv : vs[k]? = some v) : ∀ b ∈ v.ownBlock.toList, b ∉ blocksOf (vs.take k) := by
 intro b hb hm
 have hk := (List.getElem?_eq_some_iff.1 hv).1
 have e : vs = vs.take k ++ v :: vs.drop (k + 1) := by
  have := List.getElem_cons_drop hk
  rw [(List.getElem?_eq_some_iff.1 hv).2] at this
  rw [this, List.take_append_drop]
 rw [e, blocksOf, List.flatMap_append] at h
 have := (List.nodup_append.1 h).2.2 b hm b (by rw [List.flatMap_cons]; exact List.mem_append_left _ hb)
 exact this rfl
open Go.RowKit
abbrev RPl := List Int × Int
def cPl (p : Value × Int) : List Value := [p.1, .int .i64 p.2]
theorem cPl_len (p : Value × Int) : (cPl p).length = 2 := rfl
theorem infoPlayer : (Tryz.prog.info? 39).map (fun i => (i.zero, i.size, i.bytes)) = some (some (.agg #[.slice none 0 0, .int .i64 0]), 2, 32) := by kernel_rfl
def PlsRd (w : World) (vs : List (Value × Int)) (ll : List RPl) : Prop := ∀ (i : Nat) (p : Value × Int) (r : RPl), vs[i]? = some p → ll[i]? = some r → p.2 = r.2 ∧ RdL cInt 1 w p.1 r.1
def RdPls (w : World) (v : Value) (ll : List RPl) : Prop := ∃ vs : List (Value × Int), RdL cPl 2 w v vs ∧ vs.length = ll.length ∧ PlsRd w vs ll
def plBlocks (vs : List (Value × Int)) : List Nat := blocksOf (vs.map Prod.fst)
def PlsOwn (w : World) (vs : List (Value × Int)) (ll : List RPl) : Prop := ∀ (i : Nat) (p : Value × Int) (r : RPl), vs[i]? = some p → ll[i]? = some r → p.2 = r.2 ∧ w.ownsRow 0 3 1 p.1 r.1.length (r.1.flatMap cInt)
def OwPls (w : World) (S : List Nat) (v : Value) (ll : List RPl) : Prop :=
 ∃ vs : List (Value × Int), vs.length = ll.length ∧ w.ownsRow 0 39 2 v vs.length (vs.flatMap cPl) ∧ PlsOwn w vs ll ∧ S = v.ownBlock.toList ++ plBlocks vs
def plsTot (ll : List RPl) : Nat := ll.length + (ll.map (fun r => r.1.length)).sum
def plsTo (ll : List RPl) (k : Nat) : Nat := ((ll.take k).map (fun r => r.1.length + 1)).sum
def plsCnt (ll : List RPl) : Nat := (ll.map (fun r => r.1.length + 1)).sum
def PlsMk (w : World) (vs : List (Value × Int)) (ll : List RPl) (m : Int) : Prop := ∀ (i : Nat) (p : Value × Int) (r : RPl), vs[i]? = some p → ll[i]? = some r → p.2 = m + plsTo ll i + r.1.length ∧ w.ownsRow 0 3 1 p.1 r.1.length (markC mkInt 1 r.1.length (m + plsTo ll i))
def MkPls (w : World) (S : List Nat) (v : Value) (ll : List RPl) (m : Int) : Prop :=
 ∃ vs : List (Value × Int), vs.length = ll.length ∧ w.ownsRow 0 39 2 v vs.length (vs.flatMap cPl) ∧ PlsMk w vs ll m ∧ S = v.ownBlock.toList ++ plBlocks vs
theorem plsTo_succ {ll : List RPl} {k : Nat} (h : k < ll.length) : plsTo ll (k + 1) = plsTo ll k + (ll[k].1.length + 1) := sum_take_succ (fun r : RPl => r.1.length + 1) ll h
theorem plsTo_end (ll : List RPl) : plsTo ll ll.length = plsCnt ll := by unfold plsTo plsCnt; rw [List.take_length]
theorem plsCnt_tot (ll : List RPl) : plsCnt ll = plsTot ll := by
 unfold plsCnt plsTot
 induction ll with
 | nil => rfl
 | cons a l ih => simp only [List.map_cons, List.sum_cons, List.length_cons]; omega
theorem plsTo_le {ll : List RPl} {k : Nat} (h : k < ll.length) : plsTo ll k + (ll[k].1.length + 1) ≤ plsCnt ll := by
 rw [← plsTo_succ h, ← plsTo_end]
 unfold plsTo
 rw [List.take_length]
 conv => rhs; rw [← List.take_append_drop (k + 1) ll, List.map_append, List.sum_append_nat]
 omega
theorem mem_plBlocks {vs : List (Value × Int)} {i : Nat} {p : Value × Int} (h : vs[i]? = some p) : ∀ b ∈ p.1.ownBlock.toList, b ∈ plBlocks vs :=
 mem_blocks (i := i) (by rw [List.getElem?_map, h]; rfl)
theorem plBlocks_apart {vs : List (Value × Int)} (h : (plBlocks vs).Nodup) {k : Nat} {p : Value × Int} (hv : vs[k]? = some p) : ∀ b ∈ p.1.ownBlock.toList, b ∉ plBlocks (vs.take k) := by
 have := blocks_apart h (k := k) (v := p.1) (by rw [List.getElem?_map, hv]; rfl)
 unfold plBlocks
 rwa [List.map_take]
theorem plBlocks_snoc (vs : List (Value × Int)) (p : Value × Int) : plBlocks (vs ++ [p]) = plBlocks vs ++ p.1.ownBlock.toList := by
 unfold plBlocks; rw [List.map_append]; exact blocks_snoc _ _
section
variable {w w' : World} {S T : List Nat} {v : Value} {ll : List RPl} {m : Int}
theorem RdPls.below (h : RdPls w v ll) (hb : Below w.heap.size w w') : RdPls w' v ll := by
 obtain ⟨vs, h1, h2, h3⟩ := h
 exact ⟨vs, h1.below hb, h2, fun i p r hp hr => ⟨(h3 i p r hp hr).1, (h3 i p r hp hr).2.below hb⟩⟩
theorem RdPls.form (h : RdPls w v ll) : ∃ A c, v = .slice A ll.length c ∧ ll.length ≤ c ∧ c ≤ 9223372036854775807 := by
 obtain ⟨vs, h1, h2, _⟩ := h
 have := h1.form
 rwa [h2] at this
theorem RdPls.cell {A : Option Addr} {c : Nat} (h : RdPls w (.slice A ll.length c) ll) {k : Nat} (hk : k < ll.length) :
  ∃ g off u, A = some ⟨g, off, none⟩ ∧ g < w.heap.size ∧ w.cell? ⟨g, off + k * 2, none⟩ = some u ∧ w.cell? ⟨g, off + k * 2 + 1, none⟩ = some (.int .i64 ll[k].2) ∧ RdL cInt 1 w u ll[k].1 := by
 obtain ⟨vs, h1, h2, h3⟩ := h
 rw [← h2] at h1
 obtain ⟨g, off, hA, hg, hc⟩ := h1.cell (k := k) cPl_len (by omega) (by omega)
 have hk' : k < vs.length := by omega
 obtain ⟨e, hr⟩ := h3 k _ _ (List.getElem?_eq_getElem hk') (List.getElem?_eq_getElem hk)
 have c0 := hc 0 _ rfl
 have c1 := hc 1 _ rfl
 rw [e] at c1
 exact ⟨g, off, vs[k].1, hA, hg, by simpa using c0, c1, hr⟩
theorem OwPls.rd (h : OwPls w S v ll) : RdPls w v ll := by
 obtain ⟨vs, h1, h2, h3, _⟩ := h
 exact ⟨vs, RdS.of_own h2, h1, fun i p r hp hr => ⟨(h3 i p r hp hr).1, RdS.of_own (h3 i p r hp hr).2⟩⟩
theorem OwPls.below (h : OwPls w S v ll) (hb : Below w.heap.size w w') : OwPls w' S v ll := by
 obtain ⟨vs, h1, h2, h3, h4⟩ := h
 exact ⟨vs, h1, own_below h2 hb, fun i p r hp hr => ⟨(h3 i p r hp hr).1, own_below (h3 i p r hp hr).2 hb⟩, h4⟩
theorem OwPls.chg (h : OwPls w S v ll) (hc : Chg T w w') (hn : ∀ b ∈ S, b ∉ T) : OwPls w' S v ll := by
 obtain ⟨vs, h1, h2, h3, rfl⟩ := h
 exact ⟨vs, h1, own_chg h2 hc (fun b hb => hn b (by simp [hb])), fun i p r hp hr => ⟨(h3 i p r hp hr).1, own_chg (h3 i p r hp hr).2 hc (fun b hb => hn b (List.mem_append_right _ (mem_plBlocks hp b hb)))⟩, rfl⟩
theorem MkPls.below (h : MkPls w S v ll m) (hb : Below w.heap.size w w') : MkPls w' S v ll m := by
 obtain ⟨vs, h1, h2, h3, h4⟩ := h
 exact ⟨vs, h1, own_below h2 hb, fun i p r hp hr => ⟨(h3 i p r hp hr).1, own_below (h3 i p r hp hr).2 hb⟩, h4⟩
theorem MkPls.chg (h : MkPls w S v ll m) (hc : Chg T w w') (hn : ∀ b ∈ S, b ∉ T) : MkPls w' S v ll m := by
 obtain ⟨vs, h1, h2, h3, rfl⟩ := h
 exact ⟨vs, h1, own_chg h2 hc (fun b hb => hn b (by simp [hb])), fun i p r hp hr => ⟨(h3 i p r hp hr).1, own_chg (h3 i p r hp hr).2 hc (fun b hb => hn b (List.mem_append_right _ (mem_plBlocks hp b hb)))⟩, rfl⟩
theorem OwPls.empty (w : World) : OwPls w [] (.slice none 0 0) [] := ⟨[], rfl, World.ownsRow_nil _ _ _ _, fun i p r hp => by simp at hp, rfl⟩
end
open Go.RowKit
set_option maxHeartbeats 2000000 in
set_option maxRecDepth 100000 in
theorem szPlayerS_any (v : Value) (ll : List RPl) (m : Int) (w : World) (h : RdPls w v ll) (hm : 0 ≤ m ∧ m ≤ 1048576) :
  Calls Tryz.prog 86 #[v, .int .i64 m] w (SzB m (plsTot ll) w) := by
 obtain ⟨A, c, rfl, h1, h2⟩ := h.form
 by_cases hlt : m < ll.length
 ·go_enter Tryz.func86, Tryz.ntmps86
  go_wp2_with fail
  go_ret
  exact ⟨-1, rfl, Below.refl _ _, by omega, by omega⟩
 ·go_enter Tryz.func86, Tryz.ntmps86
  go_wp2_with fail
  go_loopw [1, 5] (fun t i wr => ∃ k : Nat, k ≤ ll.length ∧ i = .int .i64 k ∧ (∃ r : Int, t = .int .i64 r ∧ 0 ≤ r ∧ r ≤ m ∧ Hid ((ll.length : Int) + (((ll.take k).map (fun r : RPl => r.1.length)).sum : Nat) = m - r)) ∧ Below w.heap.size w wr) (fun _ i _ => ll.length - (intOf i).toNat)
  case atStart => exact ⟨0, Nat.zero_le _, rfl, ⟨_, rfl, by omega, by omega, by simp [Hid]; omega⟩, Below.refl _ _⟩
  case round =>
   obtain ⟨k, hk, rfl, ⟨r, rfl, hr0, hr1, hr⟩, hb⟩ := hrel
   by_cases hlt : k < ll.length
   ·obtain ⟨g, off, u, rfl, hg, k0, k1, hru⟩ := (h.below hb).cell hlt
    have Hst := Lib.hid (sum_take_succ (fun r : RPl => r.1.length) ll hlt)
    go_wp2_with fail
    refine (szPlayer_any _ u ll[k].1 r _ hru (by omega)).mono ?_
    rintro e w' ⟨r', rfl, hb', hr2, hr3⟩
    have Hr3 := Lib.hid hr3
    clear hr3
    by_cases hneg : r' < 0
    ·go_wp2_with fail
     go_ret
     exact ⟨-1, rfl, bl_trans hb hb', by omega, by omega⟩
    ·go_wp2_with fail
     go_roundw
     case rel => exact ⟨k + 1, by omega, by go_num, ⟨_, rfl, by omega, by omega, by have a := hr.out; have b := Hst.out; have c := Hr3.out (by omega); unfold szPlayer at c; show _ = _; omega⟩, bl_trans hb hb'⟩
     case measure => simp [intOf]; omega
   ·go_wp2_with fail
    go_ret
    refine ⟨r, rfl, hb, hr1, fun _ => ?_⟩
    have := hr.out
    rw [List.take_of_length_le (by omega)] at this
    unfold plsTot
    omega
set_option maxHeartbeats 2000000 in
set_option maxRecDepth 100000 in
theorem eqPlayerS_any (v v' : Value) (ll : List RPl) (w : World) (h : RdPls w v ll) (hq : RdPls w v' ll) :
  Calls Tryz.prog 101 #[v, v'] w fun e w' => e = .returned (.bool true) ∧ Below w.heap.size w w' := by
 obtain ⟨A, c, rfl, h1, h2⟩ := h.form
 obtain ⟨A', c', rfl, h1', h2'⟩ := hq.form
 go_enter Tryz.func101, Tryz.ntmps101
 go_wp2_with fail
 go_loopw [5] (fun i wr => ∃ k : Nat, k ≤ ll.length ∧ i = .int .i64 k ∧ Below w.heap.size w wr) (fun i _ => ll.length - (intOf i).toNat)
 case atStart => exact ⟨0, Nat.zero_le _, rfl, by (repeat' (first | exact Below.refl _ _ | refine qS ?_ _ | refine qA ?_ _ | refine qD ?_ | refine qN ?_ _ | refine qT ?_ (by assumption)))⟩
 case round =>
  obtain ⟨k, hk, rfl, hb⟩ := hrel
  have hz := hb.size
  by_cases hlt : k < ll.length
  ·obtain ⟨g, off, u, rfl, hg, k0, k1, hru⟩ := (h.below hb).cell hlt
   obtain ⟨g', off', u', rfl, hg', k2, k3, hru'⟩ := (hq.below hb).cell hlt
   go_wp2_with fail
   go_still_tail 8, (by kernel_rfl)
   change wpList _ _ _ _ _ wr.drew
   go_wp2_with (go_at_call 144; refine (eqPlayer_any ll[k].2 u u' ll[k].1 wr.drew hru hru').mono ?_; rintro e w' ⟨rfl, hb'⟩)
   go_roundw
   case rel => exact ⟨k + 1, by omega, by go_num, by (repeat' (first | exact Below.refl _ _ | refine qS ?_ _ | refine qA ?_ _ | refine qD ?_ | refine qN ?_ _ | refine qT ?_ (by assumption)))⟩
   case measure => simp [intOf]; omega
  ·go_wp2_with fail
   go_ret
   exact ⟨rfl, by (repeat' (first | exact Below.refl _ _ | refine qS ?_ _ | refine qA ?_ _ | refine qD ?_ | refine qN ?_ _ | refine qT ?_ (by assumption)))⟩
set_option maxHeartbeats 2000000 in
set_option maxRecDepth 100000 in
theorem toPlayerS_any (v : Value) (ll : List RPl) (w : World) (h : RdPls w v ll) (hl : plsTot ll ≤ 1048576) :
  Calls Tryz.prog 99 #[v] w fun e w' => ∃ v' S, e = .returned v' ∧ OwPls w' S v' ll ∧ Fresh w.heap.size w' S ∧ Below w.heap.size w w' := by
 obtain ⟨A, c, rfl, h1, h2⟩ := h.form
 obtain ⟨i0, hi0, hz0, hz1, hz2⟩ := info_parts infoPlayer
 have hll : ll.length ≤ 1048576 := by unfold plsTot at hl; omega
 go_enter Tryz.func99, Tryz.ntmps99
 go_wp2_with (at_make; refine wpList_make_full _ rfl _ _ _ rfl w.heap.size 39 i0 _ 2 Tryz.underlying25 hi0 hz0 hz1 _ _ _ _ ll.length rfl rfl rfl rfl (by rw [hz2]; omega) (by simp [maxLen]; omega) (Nat.le_refl _) ?_; intro w1 hown hgr)
 have hb1 : Below w.heap.size w w1 := (Below.refl _ _).grown hgr (Nat.le_refl _) (by simp)
 have hlt1 := hown.lt w.heap.size rfl
 go_loopw [4] (fun i wr => ∃ (k : Nat) (xs : List Value) (vs : List (Value × Int)), k ≤ ll.length ∧ i = .int .i64 k ∧ wr.ownsRow w.heap.size 39 2 (.slice (some ⟨w.heap.size, 0, none⟩) ll.length ll.length) ll.length xs ∧ Hid (xs.take (k * 2) = vs.flatMap cPl) ∧ Hid (vs.length = k) ∧ PlsOwn wr vs (ll.take k) ∧ Fresh (w.heap.size + 1) wr (plBlocks vs) ∧ Below w.heap.size w wr) (fun i _ => ll.length - (intOf i).toNat)
 case atStart => exact ⟨0, _, [], Nat.zero_le _, rfl, hown, by simp [Hid], by rfl, fun i p r hv => by simp at hv, ⟨by simp [plBlocks, blocksOf], by simp [plBlocks, blocksOf]⟩, hb1⟩
 case round =>
  obtain ⟨k, xs, vs, hk, rfl, hown, ht, hvl, hrows, hfr, hb⟩ := hrel
  have hz := hb.size
  by_cases hlt : k < ll.length
  ·obtain ⟨g, off, u, rfl, hg, k0, k1, hru⟩ := (h.below hb).cell hlt
   have hxl := hown.1
   obtain ⟨u0, c0⟩ : ∃ u, wr.cell? ⟨w.heap.size, k * 2, none⟩ = some u := ⟨_, (hown.cellAt (k * 2) (by omega)).trans (List.getElem?_eq_getElem (by omega))⟩
   obtain ⟨u1, c1⟩ : ∃ u, wr.cell? ⟨w.heap.size, k * 2 + 1, none⟩ = some u := ⟨_, (hown.cellAt (k * 2 + 1) (by omega)).trans (List.getElem?_eq_getElem (by omega))⟩
   have f0 := hown.frozenAt (k * 2)
   have f1 := hown.frozenAt (k * 2 + 1)
   have hlo := (hown.lt w.heap.size rfl).2
   have Hxl := Lib.hid hxl
   clear hxl
   have hlk : szPlayer ll[k].1 ≤ 1048576 := by
    have := plsTo_le hlt
    rw [plsCnt_tot] at this
    unfold szPlayer
    omega
   go_wp2_with fail
   refine (toPlayer_any ll[k].2 u ll[k].1 _ hru hlk).mono ?_
   rintro e w' ⟨v', S', rfl, how', hfv, hb'⟩
   obtain ⟨S1, rfl, hown'⟩ := how'
   obtain ⟨A1, c1', rfl, _, _⟩ := hown'.rd.form
   have d0 := carry hb' c0
   have d1 := carry hb' c1
   have g0 := carryF hb' c0 f0
   have g1 := carryF hb' c1 f1
   have hz' := hb'.size
   have ho1 := ((own_below hown hb').stored (k * 2) (.slice A1 ll[k].1.length c1')).1.stored (k * 2 + 1) (.int .i64 ll[k].2)
   have hchg : Chg [w.heap.size] w' ((w'.setCell ⟨w.heap.size, k * 2, none⟩ (.slice A1 ll[k].1.length c1')).setCell ⟨w.heap.size, k * 2 + 1, none⟩ (.int .i64 ll[k].2)) := by repeat' (with_reducible first | exact Chg.refl _ _ | refine qC ?_)
   have hS := hown'.2
   subst hS
   clear c0 c1 f0 f1 k0 k1
   go_wp2_with fail
   go_roundw
   case rel =>
    refine ⟨k + 1, _, vs ++ [(.slice A1 ll[k].1.length c1', ll[k].2)], by omega, by go_num, ho1.1, ?_, by simp [Hid, hvl.out], ?_, ?_, by (repeat' (first | exact Below.refl _ _ | refine qS ?_ _ | refine qA ?_ _ | refine qD ?_ | refine qN ?_ _ | refine qT ?_ (by assumption)))⟩
    ·show _ = _
     rw [List.flatMap_append]
     exact (size_set2 _ _ ht.out (by rw [Hxl.out]; omega)).trans (by simp [cPl])
    ·intro i x r hx hl'
     by_cases hi : i < vs.length
     ·rw [List.getElem?_append_left hi] at hx
      have hik : i < k := by rw [← hvl.out]; exact hi
      have hl2 : (ll.take k)[i]? = some r := by
       rw [List.getElem?_take] at hl' ⊢
       rw [if_pos hik]; rw [if_pos (by omega)] at hl'; exact hl'
      refine ⟨(hrows i x r hx hl2).1, own_chg (own_below (hrows i x r hx hl2).2 hb') hchg ?_⟩
      intro b hbm
      have := hfr.2 b (mem_plBlocks hx b hbm)
      simp; omega
     ·have hik : i = k := by
       have := (List.getElem?_eq_some_iff.1 hx).1
       have e := hvl.out
       simp at this; omega
      subst hik
      rw [List.getElem?_append_right (by have := hvl.out; omega), hvl.out, Nat.sub_self] at hx
      simp at hx
      subst hx
      rw [List.getElem?_take, if_pos (by omega), List.getElem?_eq_getElem hlt] at hl'
      injection hl' with hl'
      subst hl'
      exact ⟨rfl, own_chg hown'.1 hchg (fun b hbm => by have := hfv.2 b hbm; simp; omega)⟩
    ·rw [plBlocks_snoc]
     refine ⟨List.nodup_append.2 ⟨hfr.1, hfv.1, fun a ha b hb' e => ?_⟩, fun b hbm => ?_⟩
     ·have := hfr.2 a ha
      have := hfv.2 b hb'
      omega
     ·rw [World.size_setCell, World.size_setCell]
      rcases List.mem_append.1 hbm with hbm | hbm
      ·have := hfr.2 b hbm; omega
      ·have := hfv.2 b hbm; omega
   case measure => simp [intOf]; omega
  ·obtain rfl : k = ll.length := by omega
   go_wp2_with fail
   go_ret
   have hlo := (hown.lt w.heap.size rfl).2
   have e := ht.out
   rw [List.take_of_length_le (by rw [hown.1]; omega)] at e
   subst e
   rw [List.take_length] at hrows
   refine ⟨_, _, rfl, ⟨vs, hvl.out, ?_, hrows, rfl⟩, ?_, by (repeat' (first | exact Below.refl _ _ | refine qS ?_ _ | refine qA ?_ _ | refine qD ?_ | refine qN ?_ _ | refine qT ?_ (by assumption)))⟩
   ·rw [hvl.out]; exact own_mono hown (Nat.zero_le _)
   ·refine ⟨List.nodup_append.2 ⟨by simp [Value.ownBlock], hfr.1, fun a ha b hb' e => ?_⟩, fun b hbm => ?_⟩
    ·have := hfr.2 b hb'
     simp [Value.ownBlock] at ha
     omega
    ·rcases List.mem_append.1 hbm with hbm | hbm
     ·simp [Value.ownBlock] at hbm; omega
     ·have := hfr.2 b hbm; omega
open Go.RowKit
theorem plBlocks_ne {vs : List (Value × Int)} (h : (plBlocks vs).Nodup) {i k : Nat} {p q : Value × Int} (hi : vs[i]? = some p) (hk : vs[k]? = some q) (hne : i ≠ k) : ∀ b ∈ p.1.ownBlock.toList, b ∉ q.1.ownBlock.toList := by
 intro b hb hb'
 rcases Nat.lt_or_gt_of_ne hne with hlt | hgt
 ·exact plBlocks_apart h hk b hb' (mem_plBlocks (i := i) (by rw [List.getElem?_take, if_pos hlt]; exact hi) b hb)
 ·exact plBlocks_apart h hi b hb (mem_plBlocks (i := k) (by rw [List.getElem?_take, if_pos hgt]; exact hk) b hb')
set_option maxHeartbeats 2000000 in
set_option maxRecDepth 100000 in
theorem markPlayerS_any (v : Value) (ll : List RPl) (m : Int) (w : World) (S : List Nat) (h : OwPls w S v ll) (hf : S.Nodup) (hm : 0 ≤ m ∧ m ≤ 67108864) (hl : plsTot ll ≤ 1048576) :
  Calls Tryz.prog 103 #[v, .int .i64 m] w fun e w' => e = .returned (.int .i64 (m + plsCnt ll)) ∧ MkPls w' S v ll m ∧ Chg S w w' := by
 have hrd := h.rd
 obtain ⟨vs, hvl, hown, hrows, rfl⟩ := h
 obtain ⟨A, c, rfl, h1, h2⟩ := hrd.form
 obtain ⟨_, hnd, hap, hap'⟩ := nodup2 hf
 rw [hvl] at hown
 have Hap := Lib.hid hap
 have Hap' := Lib.hid hap'
 have Hrows := Lib.hid hrows
 have Hvl := Lib.hid hvl
 have hll : ll.length ≤ 1048576 := by unfold plsTot at hl; omega
 clear hap hap' hrows hrd hf
 go_enter Tryz.func103, Tryz.ntmps103
 go_wp2_with fail
 go_loopw [1, 5] (fun q i wr => ∃ (k : Nat) (vs' : List (Value × Int)), k ≤ ll.length ∧ i = .int .i64 k ∧ q = .int .i64 (m + plsTo ll k) ∧ Hid (vs'.length = ll.length) ∧ wr.ownsRow 0 39 2 (.slice A ll.length c) ll.length (vs'.flatMap cPl) ∧ Hid (vs'.map Prod.fst = vs.map Prod.fst) ∧
  Hid (∀ (i : Nat) (p : Value × Int) (r : RPl), i < k → vs'[i]? = some p → ll[i]? = some r → p.2 = m + plsTo ll i + r.1.length ∧ wr.ownsRow 0 3 1 p.1 r.1.length (markC mkInt 1 r.1.length (m + plsTo ll i))) ∧
  Hid (∀ (i : Nat) (p : Value × Int) (r : RPl), k ≤ i → vs'[i]? = some p → ll[i]? = some r → wr.ownsRow 0 3 1 p.1 r.1.length (r.1.flatMap cInt)) ∧ Hid (Chg ((Value.slice A ll.length c).ownBlock.toList ++ plBlocks vs) w wr)) (fun _ i _ => ll.length - (intOf i).toNat)
 case atStart => exact ⟨0, vs, Nat.zero_le _, rfl, by simp [plsTo], Hvl.out, hown, rfl, fun i p r hi => by omega, fun i p r _ hp hr => (Hrows.out i p r hp hr).2, Chg.refl _ _⟩
 case round =>
  obtain ⟨k, vs', hk, rfl, rfl, hvl', hown', hfst, hdone, hleft, hch⟩ := hrel
  by_cases hlt : k < ll.length
  ·have hkv : k < vs'.length := by rw [hvl'.out]; exact hlt
   obtain ⟨g, cap, hv⟩ := own_form hown' (by omega)
   injection hv with hv1 hv2 hv3
   subst hv1 hv3
   have hpb : plBlocks vs' = plBlocks vs := by unfold plBlocks; rw [hfst.out]
   have hnd' : (plBlocks vs').Nodup := by rw [hpb]; exact hnd
   have hgout : ∀ b ∈ vs'[k].1.ownBlock.toList, b ≠ g := fun b hb e => by
    have hb2 := mem_plBlocks (List.getElem?_eq_getElem hkv) b hb
    rw [hpb] at hb2
    exact Hap'.out b hb2 (by rw [e]; simp [Value.ownBlock])
   have k0 : wr.cell? ⟨g, k * 2, none⟩ = some vs'[k].1 := by
    have := (hown'.cellAt (k * 2) (by omega)).trans (get_flat cPl_len vs' k hkv 0 (by omega))
    exact this
   have f1 := hown'.frozenAt (k * 2 + 1)
   obtain ⟨u1, k1⟩ : ∃ u, wr.cell? ⟨g, k * 2 + 1, none⟩ = some u := ⟨_, (hown'.cellAt (k * 2 + 1) (by omega)).trans (get_flat cPl_len vs' k hkv 1 (by omega))⟩
   have hrk := hleft.out k vs'[k] ll[k] (Nat.le_refl _) (List.getElem?_eq_getElem hkv) (List.getElem?_eq_getElem hlt)
   have Hst := Lib.hid (plsTo_succ hlt)
   have hle := plsTo_le hlt
   rw [plsCnt_tot] at hle
   generalize hpk : vs'[k] = pk at *
   obtain ⟨pv, pn⟩ := pk
   have Hpk := Lib.hid hpk
   clear hpk
   have HX : ∀ i p, i ≠ k → vs'[i]? = some p → ∀ b ∈ p.1.ownBlock.toList, b ∉ pv.ownBlock.toList := fun i p hne hp => plBlocks_ne hnd' hp (show vs'[k]? = some (pv, pn) by rw [List.getElem?_eq_getElem hkv, Hpk.out]) hne
   have HX := Lib.hid HX
   go_wp2_with fail
   refine (markIntS_any pv ll[k].1.length (ll[k].1.flatMap cInt) _ 0 _ hrk (by omega) (by omega)).mono ?_
   rintro e w' ⟨rfl, hownk, hgr⟩
   have hq := Chg.of_grown hgr
   have hown2 := own_chg hown' hq (fun b hb hb' => hgout b hb' (by simp [Value.ownBlock] at hb; omega))
   replace k1 := carryChg hq k1 (fun hb => hgout g hb rfl)
   replace f1 := carryChgF hq ((hown'.cellAt (k * 2 + 1) (by omega)).trans (get_flat cPl_len vs' k hkv 1 (by omega))) f1 (fun hb => hgout g hb rfl)
   clear k0
   have hstored := (hown2.stored (k * 2 + 1) (.int .i64 (m + plsTo ll k + ll[k].1.length))).1
   rw [flat_set cPl_len vs' k hkv 1 (by omega) _ (pv, m + plsTo ll k + ll[k].1.length) (by rw [Hpk.out]; rfl)] at hstored
   have hsetc : Chg [g] w' (w'.setCell ⟨g, k * 2 + 1, none⟩ (.int .i64 (m + plsTo ll k + ll[k].1.length))) := chg_set (Chg.refl _ _) (by simp)
   go_wp2_with fail
   go_roundw
   case rel =>
    refine ⟨k + 1, vs'.set k (pv, m + plsTo ll k + ll[k].1.length), by omega, by go_num, int_eq (by rw [Hst.out]; omega), by show _ = _; rw [List.length_set]; exact hvl'.out, hstored, ?_, ?_, ?_, ?_⟩
    ·show _ = _
     rw [List.map_set, ← hfst.out]
     apply List.ext_getElem
     ·simp
     ·intro i h1 h2
      by_cases hik : i = k
      ·subst hik; simp [Hpk.out]
      ·rw [List.getElem_set_ne (fun e => hik e.symm)]
    ·intro i p r hi hp hr
     by_cases hik : i = k
     ·subst hik
      rw [List.getElem?_set_self hkv] at hp
      injection hp with hp
      subst hp
      rw [List.getElem?_eq_getElem hlt] at hr
      injection hr with hr
      subst hr
      exact ⟨rfl, own_chg hownk hsetc (fun b hb hb' => hgout b hb (by simpa using hb'))⟩
     ·rw [List.getElem?_set_ne (fun e => hik e.symm)] at hp
      have hd := hdone.out i p r (by omega) hp hr
      have hmem := mem_plBlocks hp
      exact ⟨hd.1, own_chg (own_chg hd.2 hq (HX.out i p hik hp)) hsetc (fun b hb hb' => by
       have := hmem b hb
       rw [hpb] at this
       simp at hb'
       subst hb'
       exact Hap'.out b this (by simp [Value.ownBlock]))⟩
    ·intro i p r hi hp hr
     have hik : i ≠ k := by omega
     rw [List.getElem?_set_ne (fun e => hik e.symm)] at hp
     have hd := hleft.out i p r (by omega) hp hr
     have hmem := mem_plBlocks hp
     exact own_chg (own_chg hd hq (HX.out i p hik hp)) hsetc (fun b hb hb' => by
       have := hmem b hb
       rw [hpb] at this
       simp at hb'
       subst hb'
       exact Hap'.out b this (by simp [Value.ownBlock]))
    ·refine Chg.trans (hch.out.trans (hq.mono (fun b hb => List.mem_append_right _ ?_))) (hsetc.mono (fun b hb => List.mem_append_left _ ?_))
     ·rw [← hpb]; exact mem_plBlocks (show vs'[k]? = some (pv, pn) by rw [List.getElem?_eq_getElem hkv, Hpk.out]) b hb
     ·simp at hb; subst hb; simp [Value.ownBlock]
   case measure => simp [intOf]; omega
  ·obtain rfl : k = ll.length := by omega
   rw [plsTo_end]
   go_wp2_with fail
   go_ret
   refine ⟨rfl, ⟨vs', hvl'.out, by rw [hvl'.out]; exact hown', fun i p r hp hr => hdone.out i p r (List.getElem?_eq_some_iff.1 hr).1 hp hr, ?_⟩, hch.out⟩
   unfold plBlocks
   rw [hfst.out]
open Go.RowKit
open Go.RowKit
open Go.RowKit
abbrev RCord := Int × Int × Int
def cCord (t : RCord) : List Value := [.int .i64 t.1, .int .i64 t.2.1, .int .i64 t.2.2]
open Go.RowKit
abbrev RCross := Int × Bool
def cCross (t : RCross) : List Value := [.int .i64 t.1, .bool t.2]
theorem cCross_len (a : RCross) : (cCross a).length = 2 := rfl
def mkCross (k : Int) : List Value := [.int .i64 k, .bool ((k + 1) % 3 == 0)]
theorem infoCross : (Tryz.prog.info? 74).map (fun i => (i.zero, i.size, i.bytes)) = some (some (.agg #[.int .i64 0, .bool false]), 2, 16) := by kernel_rfl
theorem toCross_any (a0 : Int) (a1 : Bool) (w : World) :
  Calls Tryz.prog 141 #[.agg #[.int .i64 a0, .bool a1]] w fun e w' => e = .returned (.agg #[.int .i64 a0, .bool a1]) ∧ Below w.heap.size w w' := by
 go_enter Tryz.func141, Tryz.ntmps141
 go_wp2
 exact bodyPost_ret (v := .agg #[.int .i64 a0, .bool a1]) (by simp [results, Tryz.results141, go_sem]) rfl ⟨rfl, by (repeat' (first | exact Below.refl _ _ | refine qS ?_ _ | refine qA ?_ _ | refine qD ?_ | refine qN ?_ _ | refine qT ?_ (by assumption)))⟩
set_option maxHeartbeats 1000000 in
theorem eqCross_same (a0 : Int) (a1 : Bool) (w : World) :
  Calls Tryz.prog 143 #[.agg #[.int .i64 a0, .bool a1], .agg #[.int .i64 a0, .bool a1]] w fun e w' => e = .returned (.bool true) ∧ Below w.heap.size w w' := by
 go_enter Tryz.func143, Tryz.ntmps143
 go_wp2
 go_ret
 exact ⟨rfl, by (repeat' (first | exact Below.refl _ _ | refine qS ?_ _ | refine qA ?_ _ | refine qD ?_ | refine qN ?_ _ | refine qT ?_ (by assumption)))⟩
theorem szCrossS_any (v : Value) (l : List RCross) (m : Int) (w : World) (h : RdL cCross 2 w v l) (hm : 0 ≤ m ∧ m ≤ 1048576) :
  Calls Tryz.prog 85 #[v, .int .i64 m] w (SzPost m l.length w) := by
 obtain ⟨A, c, rfl, h1, h2⟩ := h.form
 by_cases hlt : m < l.length
 ·go_enter Tryz.func85, Tryz.ntmps85
  go_wp2_with fail
  go_ret
  exact ⟨-1, rfl, rfl, by omega, by omega⟩
 ·go_enter Tryz.func85, Tryz.ntmps85
  go_wp2_with fail
  go_ret
  exact ⟨_, rfl, rfl, by omega, by omega⟩
set_option maxHeartbeats 1000000 in
set_option maxRecDepth 100000 in
theorem eqCrossS_any (v v' : Value) (l : List RCross) (w : World) (h : RdL cCross 2 w v l) (hq : RdL cCross 2 w v' l) :
  Calls Tryz.prog 100 #[v, v'] w fun e w' => e = .returned (.bool true) ∧ Below w.heap.size w w' := by
 obtain ⟨A, c, rfl, h1, h2⟩ := h.form
 obtain ⟨A', c', rfl, h1', h2'⟩ := hq.form
 go_enter Tryz.func100, Tryz.ntmps100
 go_wp2_with fail
 go_loopw [5] (fun i wr => ∃ k : Nat, k ≤ l.length ∧ i = .int .i64 k ∧ Below w.heap.size w wr) (fun i _ => l.length - (intOf i).toNat)
 case atStart => exact ⟨0, Nat.zero_le _, rfl, by (repeat' (first | exact Below.refl _ _ | refine qS ?_ _ | refine qA ?_ _ | refine qD ?_ | refine qN ?_ _ | refine qT ?_ (by assumption)))⟩
 case round =>
  obtain ⟨k, hk, rfl, hb⟩ := hrel
  have hz := hb.size
  by_cases hlt : k < l.length
  ·have hr1 := h.below hb
   have hr2 := hq.below hb
   obtain ⟨g, off, rfl, hg, hc⟩ := hr1.cell cCross_len (by omega) hlt
   have k0 := hc 0 _ rfl
   have k1 := hc 1 _ rfl
   obtain ⟨g', off', rfl, hg', hc'⟩ := hr2.cell cCross_len (by omega) hlt
   have k2 := hc' 0 _ rfl
   have k3 := hc' 1 _ rfl
   simp only [Nat.add_zero] at k0 k1 k2 k3
   clear hc hc'
   go_wp2_with fail
   go_still_tail 8, (by kernel_rfl)
   change wpList _ _ _ _ _ wr.drew
   go_wp2_with (go_at_call 143; refine (eqCross_same _ _ _).mono ?_; rintro e w' ⟨rfl, hb'⟩)
   go_roundw
   case rel => exact ⟨k + 1, by omega, by go_num, by (repeat' (first | exact Below.refl _ _ | refine qS ?_ _ | refine qA ?_ _ | refine qD ?_ | refine qN ?_ _ | refine qT ?_ (by assumption)))⟩
   case measure => simp [intOf]; omega
  ·go_wp2_with fail
   go_ret
   exact ⟨rfl, by (repeat' (first | exact Below.refl _ _ | refine qS ?_ _ | refine qA ?_ _ | refine qD ?_ | refine qN ?_ _ | refine qT ?_ (by assumption)))⟩
set_option maxHeartbeats 1000000 in
set_option maxRecDepth 100000 in
theorem toCrossS_any (v : Value) (l : List RCross) (w : World) (h : RdL cCross 2 w v l) (hl : l.length ≤ 1048576) :
  Calls Tryz.prog 98 #[v] w fun e w' => ∃ v', e = .returned v' ∧ w'.ownsRow w.heap.size 74 2 v' l.length (l.flatMap cCross) ∧ Below w.heap.size w w' := by
 obtain ⟨A, c, rfl, h1, h2⟩ := h.form
 obtain ⟨i0, hi0, hz0, hz1, hz2⟩ := info_parts infoCross
 go_enter Tryz.func98, Tryz.ntmps98
 go_wp2_with (at_make; refine wpList_make_full _ rfl _ _ _ rfl w.heap.size 74 i0 _ 2 Tryz.underlying24 hi0 hz0 hz1 _ _ _ _ l.length rfl rfl rfl rfl (by rw [hz2]; omega) (by simp [maxLen]; omega) (Nat.le_refl _) ?_; intro w1 hown hgr)
 have hb1 : Below w.heap.size w w1 := (Below.refl _ _).grown hgr (Nat.le_refl _) (by simp)
 go_loopw [4] (fun i wr => ∃ (k : Nat) (xs : List Value), k ≤ l.length ∧ i = .int .i64 k ∧ wr.ownsRow w.heap.size 74 2 (.slice (some ⟨w.heap.size, 0, none⟩) l.length l.length) l.length xs ∧ Hid (xs.take (k * 2) = (l.take k).flatMap cCross) ∧ Below w.heap.size w wr) (fun i _ => l.length - (intOf i).toNat)
 case atStart => exact ⟨0, _, Nat.zero_le _, rfl, hown, by simp [Hid], hb1⟩
 case round =>
  obtain ⟨k, xs, hk, rfl, hown, ht, hb⟩ := hrel
  have hz := hb.size
  by_cases hlt : k < l.length
  ·have hr1 := h.below hb
   obtain ⟨g, off, rfl, hg, hc⟩ := hr1.cell cCross_len (by omega) hlt
   have k0 := hc 0 _ rfl
   have k1 := hc 1 _ rfl
   simp only [Nat.add_zero] at k0 k1
   clear hc
   have hxl := hown.1
   obtain ⟨u0, c0⟩ : ∃ u, wr.cell? ⟨w.heap.size, k * 2, none⟩ = some u := ⟨_, (hown.cellAt (k * 2) (by omega)).trans (List.getElem?_eq_getElem (by omega))⟩
   have f0 := hown.frozenAt (k * 2)
   obtain ⟨u1, c1⟩ : ∃ u, wr.cell? ⟨w.heap.size, k * 2 + 1, none⟩ = some u := ⟨_, (hown.cellAt (k * 2 + 1) (by omega)).trans (List.getElem?_eq_getElem (by omega))⟩
   have f1 := hown.frozenAt (k * 2 + 1)
   clear hxl
   go_wp2_with fail
   refine (toCross_any _ _ _).mono ?_
   rintro e w' ⟨rfl, hb'⟩
   have d0 := carry hb' c0
   have g0 := carryF hb' c0 f0
   have d1 := carry hb' c1
   have g1 := carryF hb' c1 f1
   clear k0 k1 c0 c1 f0 f1
   go_wp2_with fail
   have ho1 := (((own_below hown hb').stored (k * 2) (.int .i64 l[k].1)).1).stored (k * 2 + 1) (.bool l[k].2)
   go_roundw
   case rel =>
    refine ⟨k + 1, _, by omega, by go_num, ho1.1, ?_, by (repeat' (first | exact Below.refl _ _ | refine qS ?_ _ | refine qA ?_ _ | refine qD ?_ | refine qN ?_ _ | refine qT ?_ (by assumption)))⟩
    show _ = _
    rw [flat_snoc cCross l hlt]
    exact size_set2 _ _ ht.out (by rw [hown.1]; omega)
   case measure => simp [intOf]; omega
  ·go_wp2_with fail
   go_ret
   refine ⟨_, rfl, ?_, by (repeat' (first | exact Below.refl _ _ | refine qS ?_ _ | refine qA ?_ _ | refine qD ?_ | refine qN ?_ _ | refine qT ?_ (by assumption)))⟩
   have e := ht.out
   rw [List.take_of_length_le (by rw [hown.1]; omega), List.take_of_length_le (by omega)] at e
   rw [← e]; exact hown
set_option maxHeartbeats 1000000 in
set_option maxRecDepth 100000 in
theorem markCrossS_any (v : Value) (n : Nat) (xs0 : List Value) (m : Int) (B : Nat) (w : World) (h : w.ownsRow B 74 2 v n xs0) (hm : 0 ≤ m ∧ m ≤ 1152921504606846976) (hn : n ≤ 16777216) :
  Calls Tryz.prog 102 #[v, .int .i64 m] w fun e w' => e = .returned (.int .i64 (m + n * 2)) ∧ w'.ownsRow B 74 2 v n (markC mkCross 2 n m) ∧ w.grownBy w' v.ownBlock := by
 obtain ⟨A, c, rfl, h1, h2⟩ := (RdS.of_own h).form
 simp only [maxLen] at h2
 go_enter Tryz.func102, Tryz.ntmps102
 go_wp2_with fail
 go_loopw [1, 5] (fun q i wr => ∃ (k : Nat) (xs : List Value), k ≤ n ∧ i = .int .i64 k ∧ q = .int .i64 (m + k * 2) ∧ wr.ownsRow B 74 2 (.slice A n c) n xs ∧ Hid (xs.take (k * 2) = markC mkCross 2 k m) ∧ Hid (w.grownBy wr (Value.slice A n c).ownBlock)) (fun _ i _ => n - (intOf i).toNat)
 case atStart => exact ⟨0, _, Nat.zero_le _, rfl, by simp, h, by simp [Hid, markC], World.grownBy.refl _ _⟩
 case round =>
  obtain ⟨k, xs, hk, rfl, rfl, hown, ht, hgr⟩ := hrel
  by_cases hlt : k < n
  ·obtain ⟨g, cap, hv⟩ := own_form hown (by omega)
   injection hv with hv1 hv2 hv3
   subst hv1 hv3
   have hxl := hown.1
   obtain ⟨u0, c0⟩ : ∃ u, wr.cell? ⟨g, k * 2, none⟩ = some u := ⟨_, (hown.cellAt (k * 2) (by omega)).trans (List.getElem?_eq_getElem (by omega))⟩
   have f0 := hown.frozenAt (k * 2)
   obtain ⟨u1, c1⟩ : ∃ u, wr.cell? ⟨g, k * 2 + 1, none⟩ = some u := ⟨_, (hown.cellAt (k * 2 + 1) (by omega)).trans (List.getElem?_eq_getElem (by omega))⟩
   have f1 := hown.frozenAt (k * 2 + 1)
   have Hxl := Lib.hid hxl
   clear hxl
   go_wp2_with fail
   have ho1 := (((hown).stored (k * 2) (.int .i64 (m + k * 2))).1).stored (k * 2 + 1) (.bool (((m + k * 2) + 1) % 3 == 0))
   go_roundw
   case rel =>
    refine ⟨k + 1, _, by omega, by go_num, int_eq (by omega), ho1.1, ?_, ?_⟩
    ·show _ = _
     rw [markC_succ]
     refine (size_set2 _ _ ht.out (by rw [Hxl.out]; omega)).trans ?_
     simp [mkCross, Int.add_assoc]
    ·exact (by repeat (first | exact hgr.out | refine grown_setCell ?_ rfl _))
   case measure => simp [intOf]; omega
  ·go_wp2_with fail
   go_ret
   have hkn : k = n := by omega
   subst hkn
   refine ⟨rfl, ?_, hgr.out⟩
   have e := ht.out
   rw [List.take_of_length_le (by rw [hown.1]; omega)] at e
   rw [← e]; exact hown
open Go.RowKit
def RdCompany (w : World) (x1 x2 : Value) (d1 : List RCross) (d2 : List RPl) : Prop := RdL cCross 2 w x1 d1 ∧ RdPls w x2 d2
def OwCompany (w : World) (S : List Nat) (x1 x2 : Value) (d1 : List RCross) (d2 : List RPl) : Prop := ∃ S1 S2, S = S1 ++ S2 ∧ OwL 74 cCross 2 w (S1) x1 d1 ∧ OwPls w (S2) x2 d2
def szCompany (d1 : List RCross) (d2 : List RPl) : Nat := d1.length + plsTot d2
def cntCompany (d1 : List RCross) (d2 : List RPl) : Nat := d1.length * 2 + plsCnt d2
def MkCompany (w : World) (S : List Nat) (x1 x2 : Value) (d1 : List RCross) (d2 : List RPl) (m : Int) : Prop := ∃ S1 S2, S = S1 ++ S2 ∧ MkL 74 mkCross 2 w (S1) x1 d1.length m ∧ MkPls w (S2) x2 d2 (m + d1.length * 2)
section
variable {w w' : World} {S T : List Nat} {x1 x2 : Value} {d1 : List RCross} {d2 : List RPl} {m : Int}
theorem RdCompany.below (h : RdCompany w x1 x2 d1 d2) (hb : Below w.heap.size w w') : RdCompany w' x1 x2 d1 d2 := by
 obtain ⟨h1, h2⟩ := h
 exact ⟨h1.below hb, h2.below hb⟩
theorem RdCompany.forms (h : RdCompany w x1 x2 d1 d2) : (∃ A c, x1 = .slice A d1.length c) ∧ (∃ A c, x2 = .slice A d2.length c) := by
 obtain ⟨h1, h2⟩ := h
 have f1 : (∃ A c, x1 = .slice A d1.length c) := by obtain ⟨A, c, e, _⟩ := h1.form; exact ⟨A, c, e⟩
 have f2 : (∃ A c, x2 = .slice A d2.length c) := by obtain ⟨A, c, e, _⟩ := h2.form; exact ⟨A, c, e⟩
 exact ⟨f1, f2⟩
theorem OwCompany.rd (h : OwCompany w S x1 x2 d1 d2) : RdCompany w x1 x2 d1 d2 := by
 obtain ⟨S1, S2, _, h1, h2⟩ := h
 exact ⟨h1.rd, h2.rd⟩
theorem OwCompany.below (h : OwCompany w S x1 x2 d1 d2) (hb : Below w.heap.size w w') : OwCompany w' S x1 x2 d1 d2 := by
 obtain ⟨S1, S2, e, h1, h2⟩ := h
 exact ⟨S1, S2, e, h1.below hb, h2.below hb⟩
theorem OwCompany.chg (h : OwCompany w S x1 x2 d1 d2) (hc : Chg T w w') (hn : ∀ b ∈ S, b ∉ T) : OwCompany w' S x1 x2 d1 d2 := by
 obtain ⟨S1, S2, e, h1, h2⟩ := h
 exact ⟨S1, S2, e, h1.chg hc (fun b hb => hn b (by rw [e]; first | exact hb | exact List.mem_append_left _ hb | exact List.mem_append_right _ hb | exact List.mem_append_left _ (List.mem_append_left _ hb) | exact List.mem_append_left _ (List.mem_append_right _ hb) | exact List.mem_append_right _ (List.mem_append_left _ hb) | exact List.mem_append_right _ (List.mem_append_right _ hb))), h2.chg hc (fun b hb => hn b (by rw [e]; first | exact hb | exact List.mem_append_left _ hb | exact List.mem_append_right _ hb | exact List.mem_append_left _ (List.mem_append_left _ hb) | exact List.mem_append_left _ (List.mem_append_right _ hb) | exact List.mem_append_right _ (List.mem_append_left _ hb) | exact List.mem_append_right _ (List.mem_append_right _ hb)))⟩
theorem MkCompany.below (h : MkCompany w S x1 x2 d1 d2 m) (hb : Below w.heap.size w w') : MkCompany w' S x1 x2 d1 d2 m := by
 obtain ⟨S1, S2, e, h1, h2⟩ := h
 exact ⟨S1, S2, e, h1.below hb, h2.below hb⟩
theorem MkCompany.chg (h : MkCompany w S x1 x2 d1 d2 m) (hc : Chg T w w') (hn : ∀ b ∈ S, b ∉ T) : MkCompany w' S x1 x2 d1 d2 m := by
 obtain ⟨S1, S2, e, h1, h2⟩ := h
 exact ⟨S1, S2, e, h1.chg hc (fun b hb => hn b (by rw [e]; first | exact hb | exact List.mem_append_left _ hb | exact List.mem_append_right _ hb | exact List.mem_append_left _ (List.mem_append_left _ hb) | exact List.mem_append_left _ (List.mem_append_right _ hb) | exact List.mem_append_right _ (List.mem_append_left _ hb) | exact List.mem_append_right _ (List.mem_append_right _ hb))), h2.chg hc (fun b hb => hn b (by rw [e]; first | exact hb | exact List.mem_append_left _ hb | exact List.mem_append_right _ hb | exact List.mem_append_left _ (List.mem_append_left _ hb) | exact List.mem_append_left _ (List.mem_append_right _ hb) | exact List.mem_append_right _ (List.mem_append_left _ hb) | exact List.mem_append_right _ (List.mem_append_right _ hb)))⟩
end
set_option maxHeartbeats 4000000 in
set_option maxRecDepth 100000 in
theorem szCompany_any (a0 : Int) (x1 x2 : Value) (d1 : List RCross) (d2 : List RPl) (m : Int) (w : World) (hr : RdCompany w x1 x2 d1 d2) (hm : 0 ≤ m ∧ m ≤ 1048576) :
  Calls Tryz.prog 46 #[.agg #[.int .i64 a0, x1, x2], .int .i64 m] w (SzB m (szCompany d1 d2) w) := by
 obtain ⟨h1, h2⟩ := hr
 go_enter Tryz.func46, Tryz.ntmps46
 go_wp2_with fail
 refine (szB_of (szCrossS_any x1 d1 m _ (h1.below ((Below.refl _ _).alloc (Nat.le_refl _) _)) (by omega))).mono ?_
 rintro e w0 ⟨r0, rfl, q0, hr0, ht0⟩
 have Ht0 := Lib.hid ht0
 clear ht0
 have hb : Below w.heap.size w w0 := bl_alloc q0
 have c0 := carry (b := w.heap.size) (o := 0) (v := .int .i64 a0) q0 (by simp [go_sem])
 have c1 := carry (b := w.heap.size) (o := 1) (v := x1) q0 (by simp [go_sem])
 have c2 := carry (b := w.heap.size) (o := 2) (v := x2) q0 (by simp [go_sem])
 by_cases hn0 : r0 < 0
 ·go_wp2_with fail
  go_ret
  exact ⟨-1, rfl, hb, by omega, by omega⟩
 go_wp2_with fail
 refine ((szPlayerS_any x2 d2 r0 _ (h2.below hb) (by omega))).mono ?_
 rintro e w1 ⟨r1, rfl, q1, hr1, ht1⟩
 have Ht1 := Lib.hid ht1
 clear ht1
 replace hb : Below w.heap.size w w1 := bl_trans hb q1
 replace c0 := carry q1 c0
 replace c1 := carry q1 c1
 replace c2 := carry q1 c2
 by_cases hn1 : r1 < 0
 ·go_wp2_with fail
  go_ret
  exact ⟨-1, rfl, hb, by omega, by omega⟩
 go_wp2_with fail
 go_ret
 exact ⟨_, rfl, hb, by omega, fun _ => by unfold szCompany; have e0 := Ht0.out (by omega); have e1 := Ht1.out (by omega); omega⟩
def ToCompany (a0 : Int) (d1 : List RCross) (d2 : List RPl) (w : World) (e : Ending) (w' : World) : Prop :=
 ∃ x1 x2 S, e = .returned (.agg #[.int .i64 a0, x1, x2]) ∧ OwCompany w' S x1 x2 d1 d2 ∧ Fresh w.heap.size w' S ∧ Below w.heap.size w w'
set_option maxHeartbeats 4000000 in
set_option maxRecDepth 100000 in
theorem toCompany_any (a0 : Int) (y1 y2 : Value) (d1 : List RCross) (d2 : List RPl) (w : World) (hr : RdCompany w y1 y2 d1 d2) (hl : szCompany d1 d2 ≤ 1048576) :
  Calls Tryz.prog 53 #[.agg #[.int .i64 a0, y1, y2]] w (ToCompany a0 d1 d2 w) := by
 obtain ⟨h1, h2⟩ := hr
 unfold szCompany at hl
 go_enter Tryz.func53, Tryz.ntmps53
 go_wp2_with fail
 refine (toCrossS_any y1 d1 _ (h1.below (by (repeat' (with_reducible first | exact Below.refl _ _ | assumption | refine qS ?_ _ | refine qA ?_ _ | refine qD ?_ | refine qN ?_ _)))) (by omega)).mono ?_
 rintro e w0 ⟨x1, rfl, own0, q0⟩
 have o0 : OwL 74 cCross 2 w0 (x1.ownBlock.toList) x1 d1 := OwL.mk_ own0
 have f0 := fresh_of own0
 clear own0
 obtain ⟨A1, n1, rfl, _, _⟩ := o0.rd.form
 have z0 := q0.size
 simp at z0
 have c0 := carry (b := w.heap.size) (o := 0) (v := .int .i64 a0) q0 (by simp [go_sem, *])
 have g0 := carryF (b := w.heap.size + 1 + 1) (o := 0) (v := .int .i64 a0) q0 (by simp [go_sem, *]) (by simp [go_sem, *])
 have k0 := carry (b := w.heap.size + 1 + 1) (o := 0) (v := .int .i64 a0) q0 (by simp [go_sem, *])
 have p0 := carryF (b := w.heap.size + 1) (o := 0) (v := .int .i64 0) q0 (by simp [go_sem, *]) (by simp [go_sem, *])
 have j0 := carry (b := w.heap.size + 1) (o := 0) (v := .int .i64 0) q0 (by simp [go_sem, *])
 have c1 := carry (b := w.heap.size) (o := 1) (v := y1) q0 (by simp [go_sem, *])
 have g1 := carryF (b := w.heap.size + 1 + 1) (o := 1) (v := .slice none 0 0) q0 (by simp [go_sem, *]) (by simp [go_sem, *])
 have k1 := carry (b := w.heap.size + 1 + 1) (o := 1) (v := .slice none 0 0) q0 (by simp [go_sem, *])
 have p1 := carryF (b := w.heap.size + 1) (o := 1) (v := .slice none 0 0) q0 (by simp [go_sem, *]) (by simp [go_sem, *])
 have j1 := carry (b := w.heap.size + 1) (o := 1) (v := .slice none 0 0) q0 (by simp [go_sem, *])
 have c2 := carry (b := w.heap.size) (o := 2) (v := y2) q0 (by simp [go_sem, *])
 have g2 := carryF (b := w.heap.size + 1 + 1) (o := 2) (v := .slice none 0 0) q0 (by simp [go_sem, *]) (by simp [go_sem, *])
 have k2 := carry (b := w.heap.size + 1 + 1) (o := 2) (v := .slice none 0 0) q0 (by simp [go_sem, *])
 have p2 := carryF (b := w.heap.size + 1) (o := 2) (v := .slice none 0 0) q0 (by simp [go_sem, *]) (by simp [go_sem, *])
 have j2 := carry (b := w.heap.size + 1) (o := 2) (v := .slice none 0 0) q0 (by simp [go_sem, *])
 have hb : Below w.heap.size w w0 := Below.trans (by (repeat' (with_reducible first | exact Below.refl _ _ | assumption | refine qS ?_ _ | refine qA ?_ _ | refine qD ?_ | refine qN ?_ _))) (q0.mono (by simp <;> omega))
 go_wp2_with fail
 refine (toPlayerS_any y2 d2 _ (h2.below (by (repeat' (with_reducible first | exact Below.refl _ _ | assumption | refine qS ?_ _ | refine qA ?_ _ | refine qD ?_ | refine qN ?_ _)))) (by omega)).mono ?_
 rintro e w1 ⟨x2, S2, rfl, o1, f1, q1⟩
 obtain ⟨A2, n2, rfl, _, _⟩ := o1.rd.form
 have z1 := q1.size
 simp at z1
 replace c0 := carry (b := w.heap.size) (o := 0) (v := .int .i64 a0) q1 (by simp [go_sem, *])
 replace g0 := carryF (b := w.heap.size + 1 + 1) (o := 0) (v := .int .i64 a0) q1 (by simp [go_sem, *]) (by simp [go_sem, *])
 replace k0 := carry (b := w.heap.size + 1 + 1) (o := 0) (v := .int .i64 a0) q1 (by simp [go_sem, *])
 replace p0 := carryF (b := w.heap.size + 1) (o := 0) (v := .int .i64 0) q1 (by simp [go_sem, *]) (by simp [go_sem, *])
 replace j0 := carry (b := w.heap.size + 1) (o := 0) (v := .int .i64 0) q1 (by simp [go_sem, *])
 replace c1 := carry (b := w.heap.size) (o := 1) (v := y1) q1 (by simp [go_sem, *])
 replace g1 := carryF (b := w.heap.size + 1 + 1) (o := 1) (v := (Value.slice A1 d1.length n1)) q1 (by simp [go_sem, *]) (by simp [go_sem, *])
 replace k1 := carry (b := w.heap.size + 1 + 1) (o := 1) (v := (Value.slice A1 d1.length n1)) q1 (by simp [go_sem, *])
 replace p1 := carryF (b := w.heap.size + 1) (o := 1) (v := .slice none 0 0) q1 (by simp [go_sem, *]) (by simp [go_sem, *])
 replace j1 := carry (b := w.heap.size + 1) (o := 1) (v := .slice none 0 0) q1 (by simp [go_sem, *])
 replace c2 := carry (b := w.heap.size) (o := 2) (v := y2) q1 (by simp [go_sem, *])
 replace g2 := carryF (b := w.heap.size + 1 + 1) (o := 2) (v := .slice none 0 0) q1 (by simp [go_sem, *]) (by simp [go_sem, *])
 replace k2 := carry (b := w.heap.size + 1 + 1) (o := 2) (v := .slice none 0 0) q1 (by simp [go_sem, *])
 replace p2 := carryF (b := w.heap.size + 1) (o := 2) (v := .slice none 0 0) q1 (by simp [go_sem, *]) (by simp [go_sem, *])
 replace j2 := carry (b := w.heap.size + 1) (o := 2) (v := .slice none 0 0) q1 (by simp [go_sem, *])
 replace hb : Below w.heap.size w w1 := Below.trans (by (repeat' (with_reducible first | exact Below.refl _ _ | assumption | refine qS ?_ _ | refine qA ?_ _ | refine qD ?_ | refine qN ?_ _))) (q1.mono (by simp <;> omega))
 replace o0 := (o0.chg (w' := _) (T := [w.heap.size + 1 + 1]) (by repeat' (with_reducible first | exact Chg.refl _ _ | refine qC ?_)) (fun b hb hc => by have := f0.2 b hb; simp at hc this; omega)).below q1
 go_wp2_with fail
 have b0 := f0.2
 have b1 := f1.2
 refine bodyPost_ret (v := .agg #[.int .i64 a0, (Value.slice A1 d1.length n1), (Value.slice A2 d2.length n2)]) (by simp [results, Tryz.results53, go_sem, *]) rfl ⟨(Value.slice A1 d1.length n1), (Value.slice A2 d2.length n2), (Value.slice A1 d1.length n1).ownBlock.toList ++ S2, rfl, ?_, ?_, by (repeat' (with_reducible first | exact Below.refl _ _ | assumption | refine qS ?_ _ | refine qA ?_ _ | refine qD ?_ | refine qN ?_ _))⟩
 ·have hs : ∀ {S : List Nat}, (∀ b ∈ S, w.heap.size + 3 ≤ b) → ∀ b ∈ S, b ∉ [w.heap.size + 1, w.heap.size + 1 + 1] := fun h b hb hc => by have := h b hb; simp at hc; omega
  exact ⟨(Value.slice A1 d1.length n1).ownBlock.toList, S2, rfl, o0.chg (T := [w.heap.size + 1, w.heap.size + 1 + 1]) (by repeat' (with_reducible first | exact Chg.refl _ _ | refine qC ?_)) (hs (fun b hb => by have := b0 b hb; simp at this; omega)), o1.chg (T := [w.heap.size + 1, w.heap.size + 1 + 1]) (by repeat' (with_reducible first | exact Chg.refl _ _ | refine qC ?_)) (hs (fun b hb => by have := b1 b hb; simp at this; omega))⟩
 ·exact fresh_mono (fresh_append f0 f1 (by first | omega | (simp; omega) | simp) (by first | omega | (simp; omega) | simp) (Nat.le_refl _) (by first | omega | (simp; omega) | simp)) (by first | omega | (simp; omega) | simp) (by first | omega | (simp; omega) | simp)
set_option maxHeartbeats 4000000 in
set_option maxRecDepth 100000 in
theorem eqCompany_any (a0 : Int) (x1 x2 : Value) (y1 y2 : Value) (d1 : List RCross) (d2 : List RPl) (w : World) (hx : RdCompany w x1 x2 d1 d2) (hy : RdCompany w y1 y2 d1 d2) :
  Calls Tryz.prog 55 #[.agg #[.int .i64 a0, x1, x2], .agg #[.int .i64 a0, y1, y2]] w fun e w' => e = .returned (.bool true) ∧ Below w.heap.size w w' := by
 obtain ⟨h1, h2⟩ := hx
 obtain ⟨g1, g2⟩ := hy
 go_enter Tryz.func55, Tryz.ntmps55
 go_wp2_with fail
 refine (eqCrossS_any x1 y1 d1 _ (h1.below (((Below.refl _ _).alloc (Nat.le_refl _) _).alloc (by simp) _)) (g1.below (((Below.refl _ _).alloc (Nat.le_refl _) _).alloc (by simp) _))).mono ?_
 rintro e w0 ⟨rfl, q0⟩
 have cx0 := carry (b := w.heap.size) (o := 0) (v := .int .i64 a0) q0 (by simp [go_sem])
 have cy0 := carry (b := w.heap.size + 1) (o := 0) (v := .int .i64 a0) q0 (by simp [go_sem])
 have cx1 := carry (b := w.heap.size) (o := 1) (v := x1) q0 (by simp [go_sem])
 have cy1 := carry (b := w.heap.size + 1) (o := 1) (v := y1) q0 (by simp [go_sem])
 have cx2 := carry (b := w.heap.size) (o := 2) (v := x2) q0 (by simp [go_sem])
 have cy2 := carry (b := w.heap.size + 1) (o := 2) (v := y2) q0 (by simp [go_sem])
 have hb : Below w.heap.size w w0 := bl_alloc (bl_alloc q0)
 go_wp2_with fail
 refine (eqPlayerS_any x2 y2 d2 _ (h2.below hb) (g2.below hb)).mono ?_
 rintro e w1 ⟨rfl, q1⟩
 replace cx0 := carry q1 cx0
 replace cy0 := carry q1 cy0
 replace cx1 := carry q1 cx1
 replace cy1 := carry q1 cy1
 replace cx2 := carry q1 cx2
 replace cy2 := carry q1 cy2
 replace hb : Below w.heap.size w w1 := bl_trans hb q1
 go_wp2_with fail
 go_ret
 exact ⟨rfl, hb⟩
set_option maxHeartbeats 4000000 in
set_option maxRecDepth 100000 in
theorem markCompany_any (a0 : Int) (x1 x2 : Value) (d1 : List RCross) (d2 : List RPl) (m : Int) (w : World) (B : Nat) (S : List Nat) (h : OwCompany w S x1 x2 d1 d2) (hf : Fresh B w S) (hm : 0 ≤ m ∧ m ≤ 16777216) (hl : szCompany d1 d2 ≤ 1048576) :
  Calls Tryz.prog 57 #[.agg #[.int .i64 a0, x1, x2], .int .i64 m] w fun e w' => e = .returned (.int .i64 (m + cntCompany d1 d2)) ∧ MkCompany w' S x1 x2 d1 d2 m ∧ Chg S w w' := by
 unfold szCompany at hl
 obtain ⟨S1, S2, rfl, h1, h2⟩ := h
 have e1 := h1.2
 subst e1
 have in1 : ∀ b ∈ x1.ownBlock.toList, b < w.heap.size := fun b hb => (hf.2 b (by first | exact List.mem_append_left _ hb | exact List.mem_append_right _ hb | exact List.mem_append_left _ (List.mem_append_left _ hb) | exact List.mem_append_left _ (List.mem_append_right _ hb) | exact List.mem_append_right _ (List.mem_append_left _ hb) | exact List.mem_append_right _ (List.mem_append_right _ hb))).2
 have in2 : ∀ b ∈ S2, b < w.heap.size := fun b hb => (hf.2 b (by first | exact List.mem_append_left _ hb | exact List.mem_append_right _ hb | exact List.mem_append_left _ (List.mem_append_left _ hb) | exact List.mem_append_left _ (List.mem_append_right _ hb) | exact List.mem_append_right _ (List.mem_append_left _ hb) | exact List.mem_append_right _ (List.mem_append_right _ hb))).2
 obtain ⟨n1, n2, dj, dj'⟩ := nodup2 hf.1
 clear hf
 go_enter Tryz.func57, Tryz.ntmps57
 go_wp2_with fail
 have hb0 : Below w.heap.size w (w.alloc (.cells #[.int .i64 a0, x1, x2] 27)) := (Below.refl _ _).alloc (Nat.le_refl _) _
 replace h1 := h1.below hb0
 replace h2 := h2.below hb0
 have hch : Chg (x1.ownBlock.toList ++ S2) w (w.alloc (.cells #[.int .i64 a0, x1, x2] 27)) := Chg.of_below hb0 _
 have e1 : d1.length * 2 ≤ 3145728 := by (try unfold cntCompany); (try unfold szCompany at hl); (try rw [plsCnt_tot]); omega
 have e2 : plsCnt d2 ≤ 3145728 := by (try unfold cntCompany); (try unfold szCompany at hl); (try rw [plsCnt_tot]); omega
 refine (markCrossS_any x1 d1.length _ m 0 _ h1.1 (by omega) (by omega)).mono ?_
 rintro e w0 ⟨rfl, own0, gr0⟩
 have mk0 : MkL 74 mkCross 2 w0 (x1.ownBlock.toList) x1 d1.length m := ⟨own_mono own0 (Nat.zero_le _), rfl⟩
 have q0 := Chg.of_grown gr0
 clear own0 gr0
 have c0 := carryChg (b := w.heap.size) (o := 0) (v := .int .i64 a0) q0 (by simp [go_sem]) (fun hm => Nat.lt_irrefl _ (in1 _ hm))
 have c1 := carryChg (b := w.heap.size) (o := 1) (v := x1) q0 (by simp [go_sem]) (fun hm => Nat.lt_irrefl _ (in1 _ hm))
 have c2 := carryChg (b := w.heap.size) (o := 2) (v := x2) q0 (by simp [go_sem]) (fun hm => Nat.lt_irrefl _ (in1 _ hm))
 replace h2 := h2.chg q0 dj'
 replace hch := hch.trans (q0.mono (T := x1.ownBlock.toList ++ S2) (fun b hb => (by first | exact List.mem_append_left _ hb | exact List.mem_append_right _ hb | exact List.mem_append_left _ (List.mem_append_left _ hb) | exact List.mem_append_left _ (List.mem_append_right _ hb) | exact List.mem_append_right _ (List.mem_append_left _ hb) | exact List.mem_append_right _ (List.mem_append_right _ hb))))
 go_wp2_with fail
 refine (markPlayerS_any x2 d2 (m + d1.length * 2) _ _ h2 n2 (by omega) (by omega)).mono ?_
 rintro e w1 ⟨rfl, mk1, q1⟩
 replace c0 := carryChg q1 c0 (fun hm => Nat.lt_irrefl _ (in2 _ hm))
 replace c1 := carryChg q1 c1 (fun hm => Nat.lt_irrefl _ (in2 _ hm))
 replace c2 := carryChg q1 c2 (fun hm => Nat.lt_irrefl _ (in2 _ hm))
 replace mk0 := mk0.chg q1 dj
 replace hch := hch.trans (q1.mono (T := x1.ownBlock.toList ++ S2) (fun b hb => (by first | exact List.mem_append_left _ hb | exact List.mem_append_right _ hb | exact List.mem_append_left _ (List.mem_append_left _ hb) | exact List.mem_append_left _ (List.mem_append_right _ hb) | exact List.mem_append_right _ (List.mem_append_left _ hb) | exact List.mem_append_right _ (List.mem_append_right _ hb))))
 go_wp2_with fail
 go_ret
 exact ⟨ret_int (by unfold cntCompany; omega), ⟨x1.ownBlock.toList, S2, rfl, mk0, mk1⟩, hch⟩
open Go.RowKit
def RdControl (w : World) (x1 x2 : Value) (d1 : List Int) (d2 : List RCord) : Prop := RdL cInt 1 w x1 d1 ∧ RdL cCord 3 w x2 d2
section
variable {w w' : World} {S T : List Nat} {x1 x2 : Value} {d1 : List Int} {d2 : List RCord} {m : Int}
theorem RdControl.below (h : RdControl w x1 x2 d1 d2) (hb : Below w.heap.size w w') : RdControl w' x1 x2 d1 d2 := by
 obtain ⟨h1, h2⟩ := h
 exact ⟨h1.below hb, h2.below hb⟩
theorem RdControl.forms (h : RdControl w x1 x2 d1 d2) : (∃ A c, x1 = .slice A d1.length c) ∧ (∃ A c, x2 = .slice A d2.length c) := by
 obtain ⟨h1, h2⟩ := h
 have f1 : (∃ A c, x1 = .slice A d1.length c) := by obtain ⟨A, c, e, _⟩ := h1.form; exact ⟨A, c, e⟩
 have f2 : (∃ A c, x2 = .slice A d2.length c) := by obtain ⟨A, c, e, _⟩ := h2.form; exact ⟨A, c, e⟩
 exact ⟨f1, f2⟩
end
open Go.RowKit
def RdTheatre (w : World) (x1 x2 x3 : Value) (d1 : List RCross) (d2 : List RPl) (d3 : List Int) : Prop := RdCompany w x1 x2 d1 d2 ∧ RdL cInt 1 w x3 d3
def OwTheatre (w : World) (S : List Nat) (x1 x2 x3 : Value) (d1 : List RCross) (d2 : List RPl) (d3 : List Int) : Prop := ∃ S1 S3, S = S1 ++ S3 ∧ OwCompany w (S1) x1 x2 d1 d2 ∧ OwL 3 cInt 1 w (S3) x3 d3
def szTheatre (d1 : List RCross) (d2 : List RPl) (d3 : List Int) : Nat := szCompany d1 d2 + d3.length
def cntTheatre (d1 : List RCross) (d2 : List RPl) (d3 : List Int) : Nat := cntCompany d1 d2 + d3.length
def MkTheatre (w : World) (S : List Nat) (x1 x2 x3 : Value) (d1 : List RCross) (d2 : List RPl) (d3 : List Int) (m : Int) : Prop := ∃ S1 S3, S = S1 ++ S3 ∧ MkCompany w (S1) x1 x2 d1 d2 m ∧ MkL 3 mkInt 1 w (S3) x3 d3.length (m + cntCompany d1 d2)
section
variable {w w' : World} {S T : List Nat} {x1 x2 x3 : Value} {d1 : List RCross} {d2 : List RPl} {d3 : List Int} {m : Int}
theorem RdTheatre.below (h : RdTheatre w x1 x2 x3 d1 d2 d3) (hb : Below w.heap.size w w') : RdTheatre w' x1 x2 x3 d1 d2 d3 := by
 obtain ⟨h1, h3⟩ := h
 exact ⟨h1.below hb, h3.below hb⟩
theorem RdTheatre.forms (h : RdTheatre w x1 x2 x3 d1 d2 d3) : (∃ A c, x1 = .slice A d1.length c) ∧ (∃ A c, x2 = .slice A d2.length c) ∧ (∃ A c, x3 = .slice A d3.length c) := by
 obtain ⟨h1, h3⟩ := h
 have f1 := h1.forms
 obtain ⟨p1, p2⟩ := f1
 have f3 : (∃ A c, x3 = .slice A d3.length c) := by obtain ⟨A, c, e, _⟩ := h3.form; exact ⟨A, c, e⟩
 exact ⟨p1, p2, f3⟩
theorem OwTheatre.rd (h : OwTheatre w S x1 x2 x3 d1 d2 d3) : RdTheatre w x1 x2 x3 d1 d2 d3 := by
 obtain ⟨S1, S3, _, h1, h3⟩ := h
 exact ⟨h1.rd, h3.rd⟩
theorem OwTheatre.below (h : OwTheatre w S x1 x2 x3 d1 d2 d3) (hb : Below w.heap.size w w') : OwTheatre w' S x1 x2 x3 d1 d2 d3 := by
 obtain ⟨S1, S3, e, h1, h3⟩ := h
 exact ⟨S1, S3, e, h1.below hb, h3.below hb⟩
theorem OwTheatre.chg (h : OwTheatre w S x1 x2 x3 d1 d2 d3) (hc : Chg T w w') (hn : ∀ b ∈ S, b ∉ T) : OwTheatre w' S x1 x2 x3 d1 d2 d3 := by
 obtain ⟨S1, S3, e, h1, h3⟩ := h
 exact ⟨S1, S3, e, h1.chg hc (fun b hb => hn b (by rw [e]; first | exact hb | exact List.mem_append_left _ hb | exact List.mem_append_right _ hb | exact List.mem_append_left _ (List.mem_append_left _ hb) | exact List.mem_append_left _ (List.mem_append_right _ hb) | exact List.mem_append_right _ (List.mem_append_left _ hb) | exact List.mem_append_right _ (List.mem_append_right _ hb))), h3.chg hc (fun b hb => hn b (by rw [e]; first | exact hb | exact List.mem_append_left _ hb | exact List.mem_append_right _ hb | exact List.mem_append_left _ (List.mem_append_left _ hb) | exact List.mem_append_left _ (List.mem_append_right _ hb) | exact List.mem_append_right _ (List.mem_append_left _ hb) | exact List.mem_append_right _ (List.mem_append_right _ hb)))⟩
theorem MkTheatre.below (h : MkTheatre w S x1 x2 x3 d1 d2 d3 m) (hb : Below w.heap.size w w') : MkTheatre w' S x1 x2 x3 d1 d2 d3 m := by
 obtain ⟨S1, S3, e, h1, h3⟩ := h
 exact ⟨S1, S3, e, h1.below hb, h3.below hb⟩
theorem MkTheatre.chg (h : MkTheatre w S x1 x2 x3 d1 d2 d3 m) (hc : Chg T w w') (hn : ∀ b ∈ S, b ∉ T) : MkTheatre w' S x1 x2 x3 d1 d2 d3 m := by
 obtain ⟨S1, S3, e, h1, h3⟩ := h
 exact ⟨S1, S3, e, h1.chg hc (fun b hb => hn b (by rw [e]; first | exact hb | exact List.mem_append_left _ hb | exact List.mem_append_right _ hb | exact List.mem_append_left _ (List.mem_append_left _ hb) | exact List.mem_append_left _ (List.mem_append_right _ hb) | exact List.mem_append_right _ (List.mem_append_left _ hb) | exact List.mem_append_right _ (List.mem_append_right _ hb))), h3.chg hc (fun b hb => hn b (by rw [e]; first | exact hb | exact List.mem_append_left _ hb | exact List.mem_append_right _ hb | exact List.mem_append_left _ (List.mem_append_left _ hb) | exact List.mem_append_left _ (List.mem_append_right _ hb) | exact List.mem_append_right _ (List.mem_append_left _ hb) | exact List.mem_append_right _ (List.mem_append_right _ hb)))⟩
end
set_option maxHeartbeats 4000000 in
set_option maxRecDepth 100000 in
theorem szTheatre_any (a0 : Int) (a4 : Int) (x1 x2 x3 : Value) (d1 : List RCross) (d2 : List RPl) (d3 : List Int) (m : Int) (w : World) (hr : RdTheatre w x1 x2 x3 d1 d2 d3) (hm : 0 ≤ m ∧ m ≤ 1048576) :
  Calls Tryz.prog 15 #[.agg #[.int .i64 a0, x1, x2, x3, .int .i64 a4], .int .i64 m] w (SzB m (szTheatre d1 d2 d3) w) := by
 obtain ⟨h1, h3⟩ := hr
 go_enter Tryz.func15, Tryz.ntmps15
 go_wp2_with fail
 refine (szCompany_any a0 x1 x2 d1 d2 m _ (h1.below ((Below.refl _ _).alloc (Nat.le_refl _) _)) (by omega)).mono ?_
 rintro e w0 ⟨r0, rfl, q0, hr0, ht0⟩
 have Ht0 := Lib.hid ht0
 clear ht0
 have hb : Below w.heap.size w w0 := bl_alloc q0
 have c0 := carry (b := w.heap.size) (o := 0) (v := .int .i64 a0) q0 (by simp [go_sem])
 have c1 := carry (b := w.heap.size) (o := 1) (v := x1) q0 (by simp [go_sem])
 have c2 := carry (b := w.heap.size) (o := 2) (v := x2) q0 (by simp [go_sem])
 have c3 := carry (b := w.heap.size) (o := 3) (v := x3) q0 (by simp [go_sem])
 have c4 := carry (b := w.heap.size) (o := 4) (v := .int .i64 a4) q0 (by simp [go_sem])
 by_cases hn0 : r0 < 0
 ·go_wp2_with fail
  go_ret
  exact ⟨-1, rfl, hb, by omega, by omega⟩
 go_wp2_with fail
 refine (szB_of (szIntS_any x3 d3 r0 _ (h3.below hb) (by omega))).mono ?_
 rintro e w1 ⟨r1, rfl, q1, hr1, ht1⟩
 have Ht1 := Lib.hid ht1
 clear ht1
 replace hb : Below w.heap.size w w1 := bl_trans hb q1
 replace c0 := carry q1 c0
 replace c1 := carry q1 c1
 replace c2 := carry q1 c2
 replace c3 := carry q1 c3
 replace c4 := carry q1 c4
 by_cases hn1 : r1 < 0
 ·go_wp2_with fail
  go_ret
  exact ⟨-1, rfl, hb, by omega, by omega⟩
 go_wp2_with fail
 go_ret
 exact ⟨_, rfl, hb, by omega, fun _ => by unfold szTheatre; have e0 := Ht0.out (by omega); have e1 := Ht1.out (by omega); omega⟩
def ToTheatre (a0 : Int) (a4 : Int) (d1 : List RCross) (d2 : List RPl) (d3 : List Int) (w : World) (e : Ending) (w' : World) : Prop :=
 ∃ x1 x2 x3 S, e = .returned (.agg #[.int .i64 a0, x1, x2, x3, .int .i64 a4]) ∧ OwTheatre w' S x1 x2 x3 d1 d2 d3 ∧ Fresh w.heap.size w' S ∧ Below w.heap.size w w'
set_option maxHeartbeats 4000000 in
set_option maxRecDepth 100000 in
theorem toTheatre_any (a0 : Int) (a4 : Int) (y1 y2 y3 : Value) (d1 : List RCross) (d2 : List RPl) (d3 : List Int) (w : World) (hr : RdTheatre w y1 y2 y3 d1 d2 d3) (hl : szTheatre d1 d2 d3 ≤ 1048576) :
  Calls Tryz.prog 17 #[.agg #[.int .i64 a0, y1, y2, y3, .int .i64 a4]] w (ToTheatre a0 a4 d1 d2 d3 w) := by
 obtain ⟨h1, h3⟩ := hr
 unfold szTheatre at hl
 go_enter Tryz.func17, Tryz.ntmps17
 go_wp2_with fail
 refine (toCompany_any a0 y1 y2 d1 d2 _ (h1.below (by (repeat' (with_reducible first | exact Below.refl _ _ | assumption | refine qS ?_ _ | refine qA ?_ _ | refine qD ?_ | refine qN ?_ _)))) (by omega)).mono ?_
 rintro e w0 ⟨x1, x2, S1, rfl, o0, f0, q0⟩
 obtain ⟨⟨A1, n1, rfl⟩, ⟨A2, n2, rfl⟩⟩ := o0.rd.forms
 have z0 := q0.size
 simp at z0
 have c0 := carry (b := w.heap.size) (o := 0) (v := .int .i64 a0) q0 (by simp [go_sem, *])
 have g0 := carryF (b := w.heap.size + 1 + 1) (o := 0) (v := .int .i64 0) q0 (by simp [go_sem, *]) (by simp [go_sem, *])
 have k0 := carry (b := w.heap.size + 1 + 1) (o := 0) (v := .int .i64 0) q0 (by simp [go_sem, *])
 have p0 := carryF (b := w.heap.size + 1) (o := 0) (v := .int .i64 0) q0 (by simp [go_sem, *]) (by simp [go_sem, *])
 have j0 := carry (b := w.heap.size + 1) (o := 0) (v := .int .i64 0) q0 (by simp [go_sem, *])
 have c1 := carry (b := w.heap.size) (o := 1) (v := y1) q0 (by simp [go_sem, *])
 have g1 := carryF (b := w.heap.size + 1 + 1) (o := 1) (v := .slice none 0 0) q0 (by simp [go_sem, *]) (by simp [go_sem, *])
 have k1 := carry (b := w.heap.size + 1 + 1) (o := 1) (v := .slice none 0 0) q0 (by simp [go_sem, *])
 have p1 := carryF (b := w.heap.size + 1) (o := 1) (v := .slice none 0 0) q0 (by simp [go_sem, *]) (by simp [go_sem, *])
 have j1 := carry (b := w.heap.size + 1) (o := 1) (v := .slice none 0 0) q0 (by simp [go_sem, *])
 have c2 := carry (b := w.heap.size) (o := 2) (v := y2) q0 (by simp [go_sem, *])
 have g2 := carryF (b := w.heap.size + 1 + 1) (o := 2) (v := .slice none 0 0) q0 (by simp [go_sem, *]) (by simp [go_sem, *])
 have k2 := carry (b := w.heap.size + 1 + 1) (o := 2) (v := .slice none 0 0) q0 (by simp [go_sem, *])
 have p2 := carryF (b := w.heap.size + 1) (o := 2) (v := .slice none 0 0) q0 (by simp [go_sem, *]) (by simp [go_sem, *])
 have j2 := carry (b := w.heap.size + 1) (o := 2) (v := .slice none 0 0) q0 (by simp [go_sem, *])
 have c3 := carry (b := w.heap.size) (o := 3) (v := y3) q0 (by simp [go_sem, *])
 have g3 := carryF (b := w.heap.size + 1 + 1) (o := 3) (v := .slice none 0 0) q0 (by simp [go_sem, *]) (by simp [go_sem, *])
 have k3 := carry (b := w.heap.size + 1 + 1) (o := 3) (v := .slice none 0 0) q0 (by simp [go_sem, *])
 have p3 := carryF (b := w.heap.size + 1) (o := 3) (v := .slice none 0 0) q0 (by simp [go_sem, *]) (by simp [go_sem, *])
 have j3 := carry (b := w.heap.size + 1) (o := 3) (v := .slice none 0 0) q0 (by simp [go_sem, *])
 have c4 := carry (b := w.heap.size) (o := 4) (v := .int .i64 a4) q0 (by simp [go_sem, *])
 have g4 := carryF (b := w.heap.size + 1 + 1) (o := 4) (v := .int .i64 0) q0 (by simp [go_sem, *]) (by simp [go_sem, *])
 have k4 := carry (b := w.heap.size + 1 + 1) (o := 4) (v := .int .i64 0) q0 (by simp [go_sem, *])
 have p4 := carryF (b := w.heap.size + 1) (o := 4) (v := .int .i64 0) q0 (by simp [go_sem, *]) (by simp [go_sem, *])
 have j4 := carry (b := w.heap.size + 1) (o := 4) (v := .int .i64 0) q0 (by simp [go_sem, *])
 have hb : Below w.heap.size w w0 := Below.trans (by (repeat' (with_reducible first | exact Below.refl _ _ | assumption | refine qS ?_ _ | refine qA ?_ _ | refine qD ?_ | refine qN ?_ _))) (q0.mono (by simp <;> omega))
 go_wp2_with fail
 refine (toIntS_any y3 d3 _ (h3.below (by (repeat' (with_reducible first | exact Below.refl _ _ | assumption | refine qS ?_ _ | refine qA ?_ _ | refine qD ?_ | refine qN ?_ _)))) (by omega)).mono ?_
 rintro e w1 ⟨x3, rfl, own1, q1⟩
 have o1 : OwL 3 cInt 1 w1 (x3.ownBlock.toList) x3 d3 := OwL.mk_ own1
 have f1 := fresh_of own1
 clear own1
 obtain ⟨A3, n3, rfl, _, _⟩ := o1.rd.form
 have z1 := q1.size
 simp at z1
 replace c0 := carry (b := w.heap.size) (o := 0) (v := .int .i64 a0) q1 (by simp [go_sem, *])
 replace g0 := carryF (b := w.heap.size + 1 + 1) (o := 0) (v := .int .i64 a0) q1 (by simp [go_sem, *]) (by simp [go_sem, *])
 replace k0 := carry (b := w.heap.size + 1 + 1) (o := 0) (v := .int .i64 a0) q1 (by simp [go_sem, *])
 replace p0 := carryF (b := w.heap.size + 1) (o := 0) (v := .int .i64 0) q1 (by simp [go_sem, *]) (by simp [go_sem, *])
 replace j0 := carry (b := w.heap.size + 1) (o := 0) (v := .int .i64 0) q1 (by simp [go_sem, *])
 replace c1 := carry (b := w.heap.size) (o := 1) (v := y1) q1 (by simp [go_sem, *])
 replace g1 := carryF (b := w.heap.size + 1 + 1) (o := 1) (v := (Value.slice A1 d1.length n1)) q1 (by simp [go_sem, *]) (by simp [go_sem, *])
 replace k1 := carry (b := w.heap.size + 1 + 1) (o := 1) (v := (Value.slice A1 d1.length n1)) q1 (by simp [go_sem, *])
 replace p1 := carryF (b := w.heap.size + 1) (o := 1) (v := .slice none 0 0) q1 (by simp [go_sem, *]) (by simp [go_sem, *])
 replace j1 := carry (b := w.heap.size + 1) (o := 1) (v := .slice none 0 0) q1 (by simp [go_sem, *])
 replace c2 := carry (b := w.heap.size) (o := 2) (v := y2) q1 (by simp [go_sem, *])
 replace g2 := carryF (b := w.heap.size + 1 + 1) (o := 2) (v := (Value.slice A2 d2.length n2)) q1 (by simp [go_sem, *]) (by simp [go_sem, *])
 replace k2 := carry (b := w.heap.size + 1 + 1) (o := 2) (v := (Value.slice A2 d2.length n2)) q1 (by simp [go_sem, *])
 replace p2 := carryF (b := w.heap.size + 1) (o := 2) (v := .slice none 0 0) q1 (by simp [go_sem, *]) (by simp [go_sem, *])
 replace j2 := carry (b := w.heap.size + 1) (o := 2) (v := .slice none 0 0) q1 (by simp [go_sem, *])
 replace c3 := carry (b := w.heap.size) (o := 3) (v := y3) q1 (by simp [go_sem, *])
 replace g3 := carryF (b := w.heap.size + 1 + 1) (o := 3) (v := .slice none 0 0) q1 (by simp [go_sem, *]) (by simp [go_sem, *])
 replace k3 := carry (b := w.heap.size + 1 + 1) (o := 3) (v := .slice none 0 0) q1 (by simp [go_sem, *])
 replace p3 := carryF (b := w.heap.size + 1) (o := 3) (v := .slice none 0 0) q1 (by simp [go_sem, *]) (by simp [go_sem, *])
 replace j3 := carry (b := w.heap.size + 1) (o := 3) (v := .slice none 0 0) q1 (by simp [go_sem, *])
 replace c4 := carry (b := w.heap.size) (o := 4) (v := .int .i64 a4) q1 (by simp [go_sem, *])
 replace g4 := carryF (b := w.heap.size + 1 + 1) (o := 4) (v := .int .i64 0) q1 (by simp [go_sem, *]) (by simp [go_sem, *])
 replace k4 := carry (b := w.heap.size + 1 + 1) (o := 4) (v := .int .i64 0) q1 (by simp [go_sem, *])
 replace p4 := carryF (b := w.heap.size + 1) (o := 4) (v := .int .i64 0) q1 (by simp [go_sem, *]) (by simp [go_sem, *])
 replace j4 := carry (b := w.heap.size + 1) (o := 4) (v := .int .i64 0) q1 (by simp [go_sem, *])
 replace hb : Below w.heap.size w w1 := Below.trans (by (repeat' (with_reducible first | exact Below.refl _ _ | assumption | refine qS ?_ _ | refine qA ?_ _ | refine qD ?_ | refine qN ?_ _))) (q1.mono (by simp <;> omega))
 replace o0 := (o0.chg (w' := _) (T := [w.heap.size + 1 + 1]) (by repeat' (with_reducible first | exact Chg.refl _ _ | refine qC ?_)) (fun b hb hc => by have := f0.2 b hb; simp at hc this; omega)).below q1
 go_wp2_with fail
 have b0 := f0.2
 have b1 := f1.2
 refine bodyPost_ret (v := .agg #[.int .i64 a0, (Value.slice A1 d1.length n1), (Value.slice A2 d2.length n2), (Value.slice A3 d3.length n3), .int .i64 a4]) (by simp [results, Tryz.results17, go_sem, *]) rfl ⟨(Value.slice A1 d1.length n1), (Value.slice A2 d2.length n2), (Value.slice A3 d3.length n3), S1 ++ (Value.slice A3 d3.length n3).ownBlock.toList, rfl, ?_, ?_, by (repeat' (with_reducible first | exact Below.refl _ _ | assumption | refine qS ?_ _ | refine qA ?_ _ | refine qD ?_ | refine qN ?_ _))⟩
 ·have hs : ∀ {S : List Nat}, (∀ b ∈ S, w.heap.size + 3 ≤ b) → ∀ b ∈ S, b ∉ [w.heap.size + 1, w.heap.size + 1 + 1] := fun h b hb hc => by have := h b hb; simp at hc; omega
  exact ⟨S1, (Value.slice A3 d3.length n3).ownBlock.toList, rfl, o0.chg (T := [w.heap.size + 1, w.heap.size + 1 + 1]) (by repeat' (with_reducible first | exact Chg.refl _ _ | refine qC ?_)) (hs (fun b hb => by have := b0 b hb; simp at this; omega)), o1.chg (T := [w.heap.size + 1, w.heap.size + 1 + 1]) (by repeat' (with_reducible first | exact Chg.refl _ _ | refine qC ?_)) (hs (fun b hb => by have := b1 b hb; simp at this; omega))⟩
 ·exact fresh_mono (fresh_append f0 f1 (by first | omega | (simp; omega) | simp) (by first | omega | (simp; omega) | simp) (Nat.le_refl _) (by first | omega | (simp; omega) | simp)) (by first | omega | (simp; omega) | simp) (by first | omega | (simp; omega) | simp)
set_option maxHeartbeats 4000000 in
set_option maxRecDepth 100000 in
theorem eqTheatre_any (a0 : Int) (a4 : Int) (x1 x2 x3 : Value) (y1 y2 y3 : Value) (d1 : List RCross) (d2 : List RPl) (d3 : List Int) (w : World) (hx : RdTheatre w x1 x2 x3 d1 d2 d3) (hy : RdTheatre w y1 y2 y3 d1 d2 d3) :
  Calls Tryz.prog 19 #[.agg #[.int .i64 a0, x1, x2, x3, .int .i64 a4], .agg #[.int .i64 a0, y1, y2, y3, .int .i64 a4]] w fun e w' => e = .returned (.bool true) ∧ Below w.heap.size w w' := by
 obtain ⟨h1, h3⟩ := hx
 obtain ⟨g1, g3⟩ := hy
 go_enter Tryz.func19, Tryz.ntmps19
 go_wp2_with fail
 refine (eqCompany_any a0 x1 x2 y1 y2 d1 d2 _ (h1.below (((Below.refl _ _).alloc (Nat.le_refl _) _).alloc (by simp) _)) (g1.below (((Below.refl _ _).alloc (Nat.le_refl _) _).alloc (by simp) _))).mono ?_
 rintro e w0 ⟨rfl, q0⟩
 have cx0 := carry (b := w.heap.size) (o := 0) (v := .int .i64 a0) q0 (by simp [go_sem])
 have cy0 := carry (b := w.heap.size + 1) (o := 0) (v := .int .i64 a0) q0 (by simp [go_sem])
 have cx1 := carry (b := w.heap.size) (o := 1) (v := x1) q0 (by simp [go_sem])
 have cy1 := carry (b := w.heap.size + 1) (o := 1) (v := y1) q0 (by simp [go_sem])
 have cx2 := carry (b := w.heap.size) (o := 2) (v := x2) q0 (by simp [go_sem])
 have cy2 := carry (b := w.heap.size + 1) (o := 2) (v := y2) q0 (by simp [go_sem])
 have cx3 := carry (b := w.heap.size) (o := 3) (v := x3) q0 (by simp [go_sem])
 have cy3 := carry (b := w.heap.size + 1) (o := 3) (v := y3) q0 (by simp [go_sem])
 have cx4 := carry (b := w.heap.size) (o := 4) (v := .int .i64 a4) q0 (by simp [go_sem])
 have cy4 := carry (b := w.heap.size + 1) (o := 4) (v := .int .i64 a4) q0 (by simp [go_sem])
 have hb : Below w.heap.size w w0 := bl_alloc (bl_alloc q0)
 go_wp2_with fail
 refine (eqIntS_any x3 y3 d3 _ (h3.below hb) (g3.below hb)).mono ?_
 rintro e w1 ⟨rfl, q1⟩
 replace cx0 := carry q1 cx0
 replace cy0 := carry q1 cy0
 replace cx1 := carry q1 cx1
 replace cy1 := carry q1 cy1
 replace cx2 := carry q1 cx2
 replace cy2 := carry q1 cy2
 replace cx3 := carry q1 cx3
 replace cy3 := carry q1 cy3
 replace cx4 := carry q1 cx4
 replace cy4 := carry q1 cy4
 replace hb : Below w.heap.size w w1 := bl_trans hb q1
 go_wp2_with fail
 go_ret
 exact ⟨rfl, hb⟩
set_option maxHeartbeats 4000000 in
set_option maxRecDepth 100000 in
theorem markTheatre_any (a0 : Int) (a4 : Int) (x1 x2 x3 : Value) (d1 : List RCross) (d2 : List RPl) (d3 : List Int) (m : Int) (w : World) (B : Nat) (S : List Nat) (h : OwTheatre w S x1 x2 x3 d1 d2 d3) (hf : Fresh B w S) (hm : 0 ≤ m ∧ m ≤ 16777216) (hl : szTheatre d1 d2 d3 ≤ 1048576) :
  Calls Tryz.prog 20 #[.agg #[.int .i64 a0, x1, x2, x3, .int .i64 a4], .int .i64 m] w fun e w' => e = .returned (.int .i64 (m + cntTheatre d1 d2 d3)) ∧ MkTheatre w' S x1 x2 x3 d1 d2 d3 m ∧ Chg S w w' := by
 unfold szTheatre at hl
 obtain ⟨S1, S3, rfl, h1, h3⟩ := h
 have e3 := h3.2
 subst e3
 have in1 : ∀ b ∈ S1, b < w.heap.size := fun b hb => (hf.2 b (by first | exact List.mem_append_left _ hb | exact List.mem_append_right _ hb | exact List.mem_append_left _ (List.mem_append_left _ hb) | exact List.mem_append_left _ (List.mem_append_right _ hb) | exact List.mem_append_right _ (List.mem_append_left _ hb) | exact List.mem_append_right _ (List.mem_append_right _ hb))).2
 have in3 : ∀ b ∈ x3.ownBlock.toList, b < w.heap.size := fun b hb => (hf.2 b (by first | exact List.mem_append_left _ hb | exact List.mem_append_right _ hb | exact List.mem_append_left _ (List.mem_append_left _ hb) | exact List.mem_append_left _ (List.mem_append_right _ hb) | exact List.mem_append_right _ (List.mem_append_left _ hb) | exact List.mem_append_right _ (List.mem_append_right _ hb))).2
 obtain ⟨n1, n3, dj, dj'⟩ := nodup2 hf.1
 clear hf
 go_enter Tryz.func20, Tryz.ntmps20
 go_wp2_with fail
 have hb0 : Below w.heap.size w (w.alloc (.cells #[.int .i64 a0, x1, x2, x3, .int .i64 a4] 30)) := (Below.refl _ _).alloc (Nat.le_refl _) _
 replace h1 := h1.below hb0
 replace h3 := h3.below hb0
 have hch : Chg (S1 ++ x3.ownBlock.toList) w (w.alloc (.cells #[.int .i64 a0, x1, x2, x3, .int .i64 a4] 30)) := Chg.of_below hb0 _
 have e1 : cntCompany d1 d2 ≤ 3145728 := by (try unfold cntCompany); (try unfold szCompany at hl); (try rw [plsCnt_tot]); omega
 have e3 : d3.length ≤ 3145728 := by (try unfold cntCompany); (try unfold szCompany at hl); (try rw [plsCnt_tot]); omega
 refine (markCompany_any a0 x1 x2 d1 d2 m _ 0 _ h1 ⟨n1, fun b hb => ⟨Nat.zero_le _, Nat.lt_of_lt_of_le (in1 b hb) hch.size⟩⟩ (by omega) (by omega)).mono ?_
 rintro e w0 ⟨rfl, mk0, q0⟩
 have c0 := carryChg (b := w.heap.size) (o := 0) (v := .int .i64 a0) q0 (by simp [go_sem]) (fun hm => Nat.lt_irrefl _ (in1 _ hm))
 have c1 := carryChg (b := w.heap.size) (o := 1) (v := x1) q0 (by simp [go_sem]) (fun hm => Nat.lt_irrefl _ (in1 _ hm))
 have c2 := carryChg (b := w.heap.size) (o := 2) (v := x2) q0 (by simp [go_sem]) (fun hm => Nat.lt_irrefl _ (in1 _ hm))
 have c3 := carryChg (b := w.heap.size) (o := 3) (v := x3) q0 (by simp [go_sem]) (fun hm => Nat.lt_irrefl _ (in1 _ hm))
 have c4 := carryChg (b := w.heap.size) (o := 4) (v := .int .i64 a4) q0 (by simp [go_sem]) (fun hm => Nat.lt_irrefl _ (in1 _ hm))
 replace h3 := h3.chg q0 dj'
 replace hch := hch.trans (q0.mono (T := S1 ++ x3.ownBlock.toList) (fun b hb => (by first | exact List.mem_append_left _ hb | exact List.mem_append_right _ hb | exact List.mem_append_left _ (List.mem_append_left _ hb) | exact List.mem_append_left _ (List.mem_append_right _ hb) | exact List.mem_append_right _ (List.mem_append_left _ hb) | exact List.mem_append_right _ (List.mem_append_right _ hb))))
 go_wp2_with fail
 refine (markIntS_any x3 d3.length _ (m + cntCompany d1 d2) 0 _ h3.1 (by omega) (by omega)).mono ?_
 rintro e w1 ⟨rfl, own1, gr1⟩
 have mk1 : MkL 3 mkInt 1 w1 (x3.ownBlock.toList) x3 d3.length (m + cntCompany d1 d2) := ⟨own_mono own1 (Nat.zero_le _), rfl⟩
 have q1 := Chg.of_grown gr1
 clear own1 gr1
 replace c0 := carryChg q1 c0 (fun hm => Nat.lt_irrefl _ (in3 _ hm))
 replace c1 := carryChg q1 c1 (fun hm => Nat.lt_irrefl _ (in3 _ hm))
 replace c2 := carryChg q1 c2 (fun hm => Nat.lt_irrefl _ (in3 _ hm))
 replace c3 := carryChg q1 c3 (fun hm => Nat.lt_irrefl _ (in3 _ hm))
 replace c4 := carryChg q1 c4 (fun hm => Nat.lt_irrefl _ (in3 _ hm))
 replace mk0 := mk0.chg q1 dj
 replace hch := hch.trans (q1.mono (T := S1 ++ x3.ownBlock.toList) (fun b hb => (by first | exact List.mem_append_left _ hb | exact List.mem_append_right _ hb | exact List.mem_append_left _ (List.mem_append_left _ hb) | exact List.mem_append_left _ (List.mem_append_right _ hb) | exact List.mem_append_right _ (List.mem_append_left _ hb) | exact List.mem_append_right _ (List.mem_append_right _ hb))))
 go_wp2_with fail
 go_ret
 exact ⟨ret_int (by unfold cntTheatre; omega), ⟨S1, x3.ownBlock.toList, rfl, mk0, mk1⟩, hch⟩
end Go.Proofs.YtdhmhgjjppeodaaGreatDoor
