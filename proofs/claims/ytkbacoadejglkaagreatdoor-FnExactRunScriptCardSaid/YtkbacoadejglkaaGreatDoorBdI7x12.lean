/- Lemmas and contracts that this claim's theorem rests on. Conditions: those that each states. -/
import Derived.StillTailTactics
import Derived.Test.YtkbacoadejglkaaGreatDoorBdC1x9
namespace Go.Proofs.YtkbacoadejglkaaGreatDoor
open Go.RowKit
def cVal (v : Value) : List Value := [v]
theorem zvn (v : Value) : (cVal v).length = 1 := rfl
theorem zo3 (vs : List Value) : vs.flatMap cVal = vs := by
 induction vs with
 | nil => rfl
 | cons v vs ih => rw [List.flatMap_cons, ih]; rfl
def zfi (w : World) (v : Value) (ll : List (List Int)) : Prop :=
 ∃ vs : List Value, RdL cVal 1 w v vs /\ vs.length = ll.length /\ ∀ (i : Nat) (v' : Value) (l : List Int), vs[i]? = some v' -> ll[i]? = some l -> RdL cInt 1 w v' l
def zbd (vs : List Value) : List Nat := vs.flatMap (fun v => v.ownBlock.toList)
def zf7 (ei : TypeId) (w : World) (vs : List Value) (ll : List (List Int)) : Prop :=
 ∀ (i : Nat) (v' : Value) (l : List Int), vs[i]? = some v' -> ll[i]? = some l -> w.ownsRow 0 ei 1 v' l.length (l.flatMap cInt)
def zbj (e ei : TypeId) (w : World) (S : List Nat) (v : Value) (ll : List (List Int)) : Prop :=
 ∃ vs : List Value, vs.length = ll.length /\ w.ownsRow 0 e 1 v vs.length vs /\ zf7 ei w vs ll /\ S = v.ownBlock.toList ++ zbd vs
theorem zfi.below {w w' : World} {v : Value} {ll : List (List Int)} (h : zfi w v ll) (hb : Below w.heap.size w w') : zfi w' v ll := by
 obtain ⟨vs, h1, h2, h3⟩ := h; exact ⟨vs, h1.below hb, h2, fun i v' l hv hl => (h3 i v' l hv hl).below hb⟩
theorem zfi.form {w : World} {v : Value} {ll : List (List Int)} (h : zfi w v ll) : ∃ A c, v = .slice A ll.length c /\ ll.length <= c /\ c <= 9223372036854775807 := by
 obtain ⟨vs, h1, h2, _⟩ := h; have := h1.form
 rwa [h2] at this
theorem zfi.cell {w : World} {A : Option Addr} {c : Nat} {ll : List (List Int)} (h : zfi w (.slice A ll.length c) ll) {k : Nat} (hk : k < ll.length) :
  ∃ g off u, A = some ⟨g, off, none⟩ /\ g < w.heap.size /\ w.cell? ⟨g, off + k, none⟩ = some u /\ RdL cInt 1 w u ll[k] := by
 obtain ⟨vs, h1, h2, h3⟩ := h; rw [<- h2] at h1; obtain ⟨g, off, hA, hg, hc⟩ := h1.cell (k := k) zvn (by omega) (by omega)
 have hk' : k < vs.length := by omega
 refine ⟨g, off, vs[k], hA, hg, ?_, h3 k _ _ (List.getElem?_eq_getElem hk') (List.getElem?_eq_getElem hk)⟩; have := hc 0 vs[k] rfl
 simpa using this
theorem zbj.rd {e ei : TypeId} {w : World} {S : List Nat} {v : Value} {ll : List (List Int)} (h : zbj e ei w S v ll) : zfi w v ll := by
 obtain ⟨vs, h1, h2, h3, _⟩ := h; refine ⟨vs, ?_, h1, fun i v' l hv hl => RdS.of_own (h3 i v' l hv hl)⟩
 have := RdS.of_own h2; rw [<- zo3 vs] at this; unfold RdL; rw [zo3] at this ⊢; exact this
theorem zf7.below {ei : TypeId} {w w' : World} {vs : List Value} {ll : List (List Int)} (h : zf7 ei w vs ll) (hb : Below w.heap.size w w') : zf7 ei w' vs ll :=
 fun i v' l hv hl => zac (h i v' l hv hl) hb
theorem zdl {vs : List Value} {i : Nat} {v : Value} (h : vs[i]? = some v) : ∀ b ∈ v.ownBlock.toList, b ∈ zbd vs :=
 fun _ hb => List.mem_flatMap.2 ⟨v, List.mem_of_getElem? h, hb⟩
theorem zf7.chg {ei : TypeId} {w w' : World} {vs : List Value} {ll : List (List Int)} {T : List Nat} (h : zf7 ei w vs ll) (hc : Chg T w w') (hn : ∀ b ∈ zbd vs, b ∉ T) : zf7 ei w' vs ll :=
 fun i v' l hv hl => za0 (h i v' l hv hl) hc (fun b hb => hn b (zdl hv b hb))
theorem zbj.below {e ei : TypeId} {w w' : World} {S : List Nat} {v : Value} {ll : List (List Int)} (h : zbj e ei w S v ll) (hb : Below w.heap.size w w') : zbj e ei w' S v ll := by
 obtain ⟨vs, h1, h2, h3, h4⟩ := h; exact ⟨vs, h1, zac h2 hb, h3.below hb, h4⟩
theorem zbj.chg {e ei : TypeId} {w w' : World} {S T : List Nat} {v : Value} {ll : List (List Int)} (h : zbj e ei w S v ll) (hc : Chg T w w') (hn : ∀ b ∈ S, b ∉ T) : zbj e ei w' S v ll := by
 obtain ⟨vs, h1, h2, h3, rfl⟩ := h; exact ⟨vs, h1, za0 h2 hc (fun b hb => hn b (by simp [hb])), h3.chg hc (fun b hb => hn b (by simp [hb])), rfl⟩
theorem zky : (Tryz.prog.info? 37).map (fun i => (i.zero, i.size, i.bytes)) = some (some (.slice none 0 0), 1, 24) := by kernel_rfl
theorem zht (vs : List Value) (v : Value) : zbd (vs ++ [v]) = zbd vs ++ v.ownBlock.toList := by unfold zbd; rw [List.flatMap_append]; simp
theorem zjh {vs : List Value} (h : (zbd vs).Nodup) {k : Nat} {v : Value} (hv : vs[k]? = some v) : ∀ b ∈ v.ownBlock.toList, b ∉ zbd (vs.take k) := by
 intro b hb hm; have hk := (List.getElem?_eq_some_iff.1 hv).1
 have e : vs = vs.take k ++ v :: vs.drop (k + 1) := by
  have := List.getElem_cons_drop hk; rw [(List.getElem?_eq_some_iff.1 hv).2] at this; rw [this, List.take_append_drop]
 rw [e, zbd, List.flatMap_append] at h; have := (List.nodup_append.1 h).2.2 b hm b (by rw [List.flatMap_cons]; exact List.mem_append_left _ hb)
 exact this rfl
abbrev RPl := List Int × Int
def cPl (p : Value × Int) : List Value := [p.1, .int .i64 p.2]
theorem zto (p : Value × Int) : (cPl p).length = 2 := rfl
theorem zg1 : (Tryz.prog.info? 60).map (fun i => (i.zero, i.size, i.bytes)) = some (some (.agg #[.slice none 0 0, .int .i64 0]), 2, 32) := by kernel_rfl
def z0j (w : World) (vs : List (Value × Int)) (ll : List RPl) : Prop := ∀ (i : Nat) (p : Value × Int) (r : RPl), vs[i]? = some p -> ll[i]? = some r -> p.2 = r.2 /\ RdL cInt 1 w p.1 r.1
def zel (w : World) (v : Value) (ll : List RPl) : Prop := ∃ vs : List (Value × Int), RdL cPl 2 w v vs /\ vs.length = ll.length /\ z0j w vs ll
def zaw (vs : List (Value × Int)) : List Nat := zbd (vs.map Prod.fst)
def zno (w : World) (vs : List (Value × Int)) (ll : List RPl) : Prop := ∀ (i : Nat) (p : Value × Int) (r : RPl), vs[i]? = some p -> ll[i]? = some r -> p.2 = r.2 /\ w.ownsRow 0 3 1 p.1 r.1.length (r.1.flatMap cInt)
def zcv (w : World) (S : List Nat) (v : Value) (ll : List RPl) : Prop :=
 ∃ vs : List (Value × Int), vs.length = ll.length /\ w.ownsRow 0 60 2 v vs.length (vs.flatMap cPl) /\ zno w vs ll /\ S = v.ownBlock.toList ++ zaw vs
def zdy (ll : List RPl) : Nat := ll.length + (ll.map (fun r => r.1.length)).sum
def zox (ll : List RPl) (k : Nat) : Nat := ((ll.take k).map (fun r => r.1.length + 1)).sum
def zmi (ll : List RPl) : Nat := (ll.map (fun r => r.1.length + 1)).sum
def z0d (w : World) (vs : List (Value × Int)) (ll : List RPl) (m : Int) : Prop := ∀ (i : Nat) (p : Value × Int) (r : RPl), vs[i]? = some p -> ll[i]? = some r -> p.2 = m + zox ll i + r.1.length /\ w.ownsRow 0 3 1 p.1 r.1.length (zjt zx6 1 r.1.length (m + zox ll i))
def zqk (w : World) (S : List Nat) (v : Value) (ll : List RPl) (m : Int) : Prop :=
 ∃ vs : List (Value × Int), vs.length = ll.length /\ w.ownsRow 0 60 2 v vs.length (vs.flatMap cPl) /\ z0d w vs ll m /\ S = v.ownBlock.toList ++ zaw vs
theorem zsu {ll : List RPl} {k : Nat} (h : k < ll.length) : zox ll (k + 1) = zox ll k + (ll[k].1.length + 1) := zne (fun r : RPl => r.1.length + 1) ll h
theorem zuo (ll : List RPl) : zox ll ll.length = zmi ll := by unfold zox zmi; rw [List.take_length]
theorem zl1 (ll : List RPl) : zmi ll = zdy ll := by
 unfold zmi zdy
 induction ll with
 | nil => rfl
 | cons a l ih => simp only [List.map_cons, List.sum_cons, List.length_cons]; omega
theorem zry {ll : List RPl} {k : Nat} (h : k < ll.length) : zox ll k + (ll[k].1.length + 1) <= zmi ll := by
 rw [<- zsu h, <- zuo]; unfold zox; rw [List.take_length]
 conv => rhs; rw [<- List.take_append_drop (k + 1) ll, List.map_append, List.sum_append_nat]
 omega
theorem zeu {vs : List (Value × Int)} {i : Nat} {p : Value × Int} (h : vs[i]? = some p) : ∀ b ∈ p.1.ownBlock.toList, b ∈ zaw vs :=
 zdl (i := i) (by rw [List.getElem?_map, h]; rfl)
theorem zfr (vs : List (Value × Int)) (p : Value × Int) : zaw (vs ++ [p]) = zaw vs ++ p.1.ownBlock.toList := by
 unfold zaw; rw [List.map_append]; exact zht _ _
section
variable {w w' : World} {S T : List Nat} {v : Value} {ll : List RPl} {m : Int}
theorem zel.below (h : zel w v ll) (hb : Below w.heap.size w w') : zel w' v ll := by
 obtain ⟨vs, h1, h2, h3⟩ := h; exact ⟨vs, h1.below hb, h2, fun i p r hp hr => ⟨(h3 i p r hp hr).1, (h3 i p r hp hr).2.below hb⟩⟩
theorem zel.form (h : zel w v ll) : ∃ A c, v = .slice A ll.length c /\ ll.length <= c /\ c <= 9223372036854775807 := by
 obtain ⟨vs, h1, h2, _⟩ := h; have := h1.form
 rwa [h2] at this
theorem zel.cell {A : Option Addr} {c : Nat} (h : zel w (.slice A ll.length c) ll) {k : Nat} (hk : k < ll.length) :
  ∃ g off u, A = some ⟨g, off, none⟩ /\ g < w.heap.size /\ w.cell? ⟨g, off + k * 2, none⟩ = some u /\ w.cell? ⟨g, off + k * 2 + 1, none⟩ = some (.int .i64 ll[k].2) /\ RdL cInt 1 w u ll[k].1 := by
 obtain ⟨vs, h1, h2, h3⟩ := h; rw [<- h2] at h1; obtain ⟨g, off, hA, hg, hc⟩ := h1.cell (k := k) zto (by omega) (by omega)
 have hk' : k < vs.length := by omega
 obtain ⟨e, hr⟩ := h3 k _ _ (List.getElem?_eq_getElem hk') (List.getElem?_eq_getElem hk); have c0 := hc 0 _ rfl; have c1 := hc 1 _ rfl; rw [e] at c1; exact ⟨g, off, vs[k].1, hA, hg, by simpa using c0, c1, hr⟩
theorem zcv.rd (h : zcv w S v ll) : zel w v ll := by
 obtain ⟨vs, h1, h2, h3, _⟩ := h; exact ⟨vs, RdS.of_own h2, h1, fun i p r hp hr => ⟨(h3 i p r hp hr).1, RdS.of_own (h3 i p r hp hr).2⟩⟩
theorem zcv.below (h : zcv w S v ll) (hb : Below w.heap.size w w') : zcv w' S v ll := by
 obtain ⟨vs, h1, h2, h3, h4⟩ := h; exact ⟨vs, h1, zac h2 hb, fun i p r hp hr => ⟨(h3 i p r hp hr).1, zac (h3 i p r hp hr).2 hb⟩, h4⟩
theorem zcv.chg (h : zcv w S v ll) (hc : Chg T w w') (hn : ∀ b ∈ S, b ∉ T) : zcv w' S v ll := by
 obtain ⟨vs, h1, h2, h3, rfl⟩ := h; exact ⟨vs, h1, za0 h2 hc (fun b hb => hn b (by simp [hb])), fun i p r hp hr => ⟨(h3 i p r hp hr).1, za0 (h3 i p r hp hr).2 hc (fun b hb => hn b (List.mem_append_right _ (zeu hp b hb)))⟩, rfl⟩
theorem zqk.below (h : zqk w S v ll m) (hb : Below w.heap.size w w') : zqk w' S v ll m := by
 obtain ⟨vs, h1, h2, h3, h4⟩ := h; exact ⟨vs, h1, zac h2 hb, fun i p r hp hr => ⟨(h3 i p r hp hr).1, zac (h3 i p r hp hr).2 hb⟩, h4⟩
theorem zqk.chg (h : zqk w S v ll m) (hc : Chg T w w') (hn : ∀ b ∈ S, b ∉ T) : zqk w' S v ll m := by
 obtain ⟨vs, h1, h2, h3, rfl⟩ := h; exact ⟨vs, h1, za0 h2 hc (fun b hb => hn b (by simp [hb])), fun i p r hp hr => ⟨(h3 i p r hp hr).1, za0 (h3 i p r hp hr).2 hc (fun b hb => hn b (List.mem_append_right _ (zeu hp b hb)))⟩, rfl⟩
theorem zcv.empty (w : World) : zcv w [] (.slice none 0 0) [] := ⟨[], rfl, World.ownsRow_nil _ _ _ _, fun i p r hp => by simp at hp, rfl⟩
end
abbrev RAct := Int × Int × Int
def cAct (t : RAct) : List Value := [.int .i64 t.1, .int .i64 t.2.1, .int .i64 t.2.2]
theorem zq8 (a : RAct) : (cAct a).length = 3 := rfl
theorem zuh : (Tryz.prog.info? 30).map (fun i => (i.zero, i.size, i.bytes)) = some (some (.agg #[.int .i64 0, .int .i64 0, .int .i64 0]), 3, 24) := by kernel_rfl
set_option maxHeartbeats 16000000
def actB (k a b : Int) : Bool :=
 if k = 1 then inB a 0 2 && b == 0
 else if k = 2 then inB a 0 5 && inB b 0 6
 else if k = 3 then inB a 0 5 && b == 0
 else if k = 4 then inB a 0 5 && b == 0
 else if k = 6 then inB a 0 365 && b == 0
 else if k = 5 then a == 0 && b == 0
 else if k = 7 then a == 0 && b == 0 else false
theorem zh5 (k a b : Int) (w : World) :
  Calls Tryz.prog 70 #[.agg #[.int .i64 k, .int .i64 a, .int .i64 b]] w fun e w' => e = .returned (.bool (actB k a b)) /\ Below w.heap.size w w' := by
 have H : ∀ r, r = actB k a b -> Ending.returned (.bool r) = .returned (.bool (actB k a b)) := fun r h => by rw [h]
 have H' := Lib.hid H; clear H
 by_cases hk : k = 1 ∨ k = 2 ∨ k = 3 ∨ k = 4 ∨ k = 5 ∨ k = 6 ∨ k = 7
 ·rcases hk with rfl | rfl | rfl | rfl | rfl | rfl | rfl
  all_goals
   by_cases ha : a = 0 <;> by_cases hb : b = 0
   all_goals
    first | have ha1 : (a == 0) = true := by simp [ha] | have ha1 : (a == 0) = false := by simp [ha]
    first | have hb1 : (b == 0) = true := by simp [hb] | have hb1 : (b == 0) = false := by simp [hb]
    clear ha hb
    go_enter Tryz.func70, Tryz.ntmps70
    go_wp2_with (go_at_call 35; refine two (zbo _ _ _ _) (fun hc => ?_) (fun hc => ?_))
    all_goals
     go_ret
     refine ⟨H'.out _ ?_, bL⟩
     simp_all [Hid, actB]
 ·have h1 : (k == 1) = false := by simp; omega
  have h2 : (k == 2) = false := by simp; omega
  have h3 : (k == 3) = false := by simp; omega
  have h4 : (k == 4) = false := by simp; omega
  have h5 : (k == 5) = false := by simp; omega
  have h6 : (k == 6) = false := by simp; omega
  have h7 : (k == 7) = false := by simp; omega
  have hz : actB k a b = false := by
   unfold actB; rw [if_neg (by omega), if_neg (by omega), if_neg (by omega), if_neg (by omega), if_neg (by omega), if_neg (by omega), if_neg (by omega)]
  have hz' := Lib.hid hz; clear hz hk
  go_enter Tryz.func70, Tryz.ntmps70
  go_wp2_with fail; go_ret; exact ⟨H'.out _ hz'.out.symm, bL⟩
theorem zh7 (k a b : Int) (w : World) :
  Calls Tryz.prog 49 #[.agg #[.int .i64 k, .int .i64 a, .int .i64 b]] w fun e w' => e = .returned (.bool (actB k a b)) /\ Below w.heap.size w w' := by
 have H : ∀ r, r = actB k a b -> Ending.returned (.bool r) = .returned (.bool (actB k a b)) := fun r h => by rw [h]
 have H' := Lib.hid H; clear H
 by_cases hk : k = 1 ∨ k = 2 ∨ k = 3 ∨ k = 4 ∨ k = 5 ∨ k = 6 ∨ k = 7
 ·rcases hk with rfl | rfl | rfl | rfl | rfl | rfl | rfl
  all_goals
   by_cases ha : a = 0 <;> by_cases hb : b = 0
   all_goals
    first | have ha1 : (a == 0) = true := by simp [ha] | have ha1 : (a == 0) = false := by simp [ha]
    first | have hb1 : (b == 0) = true := by simp [hb] | have hb1 : (b == 0) = false := by simp [hb]
    clear ha hb
    go_enter Tryz.func49, Tryz.ntmps49
    go_wp2_with (go_at_call 23; refine two (zbv _ _ _ _) (fun hc => ?_) (fun hc => ?_))
    all_goals
     go_ret
     refine ⟨H'.out _ ?_, bL⟩
     simp_all [Hid, actB]
 ·have h1 : (k == 1) = false := by simp; omega
  have h2 : (k == 2) = false := by simp; omega
  have h3 : (k == 3) = false := by simp; omega
  have h4 : (k == 4) = false := by simp; omega
  have h5 : (k == 5) = false := by simp; omega
  have h6 : (k == 6) = false := by simp; omega
  have h7 : (k == 7) = false := by simp; omega
  have hz : actB k a b = false := by
   unfold actB; rw [if_neg (by omega), if_neg (by omega), if_neg (by omega), if_neg (by omega), if_neg (by omega), if_neg (by omega), if_neg (by omega)]
  have hz' := Lib.hid hz; clear hz hk
  go_enter Tryz.func49, Tryz.ntmps49
  go_wp2_with fail; go_ret; exact ⟨H'.out _ hz'.out.symm, bL⟩
abbrev zxy := Int × Int × Int
def z0f (t : zxy) : List Value := [.int .i64 t.1, .int .i64 t.2.1, .int .i64 t.2.2]
abbrev zad := Int × Bool
def zah (t : zad) : List Value := [.int .i64 t.1, .bool t.2]
theorem zby (a : zad) : (zah a).length = 2 := rfl
def zy5 (k : Int) : List Value := [.int .i64 k, .bool ((k + 1) % 3 == 0)]
theorem zco : (Tryz.prog.info? 82).map (fun i => (i.zero, i.size, i.bytes)) = some (some (.agg #[.int .i64 0, .bool false]), 2, 16) := by kernel_rfl
def zaq (w : World) (x1 x2 : Value) (d1 : List zad) (d2 : List RPl) : Prop := RdL zah 2 w x1 d1 /\ zel w x2 d2
def za4 (w : World) (S : List Nat) (x1 x2 : Value) (d1 : List zad) (d2 : List RPl) : Prop := ∃ S1 S2, S = S1 ++ S2 /\ OwL 82 zah 2 w (S1) x1 d1 /\ zcv w (S2) x2 d2
def zam (d1 : List zad) (d2 : List RPl) : Nat := d1.length + zdy d2
def zsf (d1 : List zad) (d2 : List RPl) : Nat := d1.length * 2 + zmi d2
def zeh (w : World) (S : List Nat) (x1 x2 : Value) (d1 : List zad) (d2 : List RPl) (m : Int) : Prop := ∃ S1 S2, S = S1 ++ S2 /\ MkL 82 zy5 2 w (S1) x1 d1.length m /\ zqk w (S2) x2 d2 (m + d1.length * 2)
section
variable {w w' : World} {S T : List Nat} {x1 x2 : Value} {d1 : List zad} {d2 : List RPl} {m : Int}
theorem zaq.below (h : zaq w x1 x2 d1 d2) (hb : Below w.heap.size w w') : zaq w' x1 x2 d1 d2 := by
 obtain ⟨h1, h2⟩ := h; exact ⟨h1.below hb, h2.below hb⟩
theorem zaq.forms (h : zaq w x1 x2 d1 d2) : (∃ A c, x1 = .slice A d1.length c) /\ (∃ A c, x2 = .slice A d2.length c) := by
 obtain ⟨h1, h2⟩ := h; have f1 : (∃ A c, x1 = .slice A d1.length c) := by obtain ⟨A, c, e, _⟩ := h1.form; exact ⟨A, c, e⟩
 have f2 : (∃ A c, x2 = .slice A d2.length c) := by obtain ⟨A, c, e, _⟩ := h2.form; exact ⟨A, c, e⟩
 exact ⟨f1, f2⟩
theorem za4.rd (h : za4 w S x1 x2 d1 d2) : zaq w x1 x2 d1 d2 := by
 obtain ⟨S1, S2, _, h1, h2⟩ := h; exact ⟨h1.rd, h2.rd⟩
theorem za4.below (h : za4 w S x1 x2 d1 d2) (hb : Below w.heap.size w w') : za4 w' S x1 x2 d1 d2 := by
 obtain ⟨S1, S2, e, h1, h2⟩ := h; exact ⟨S1, S2, e, h1.below hb, h2.below hb⟩
theorem za4.chg (h : za4 w S x1 x2 d1 d2) (hc : Chg T w w') (hn : ∀ b ∈ S, b ∉ T) : za4 w' S x1 x2 d1 d2 := by
 obtain ⟨S1, S2, e, h1, h2⟩ := h; exact ⟨S1, S2, e, h1.chg hc (fun b hb => hn b (by rw [e]; first | exact hb | exact List.mem_append_left _ hb | exact List.mem_append_right _ hb | exact List.mem_append_left _ (List.mem_append_left _ hb) | exact List.mem_append_left _ (List.mem_append_right _ hb) | exact List.mem_append_right _ (List.mem_append_left _ hb) | exact List.mem_append_right _ (List.mem_append_right _ hb))), h2.chg hc (fun b hb => hn b (by rw [e]; first | exact hb | exact List.mem_append_left _ hb | exact List.mem_append_right _ hb | exact List.mem_append_left _ (List.mem_append_left _ hb) | exact List.mem_append_left _ (List.mem_append_right _ hb) | exact List.mem_append_right _ (List.mem_append_left _ hb) | exact List.mem_append_right _ (List.mem_append_right _ hb)))⟩
theorem zeh.below (h : zeh w S x1 x2 d1 d2 m) (hb : Below w.heap.size w w') : zeh w' S x1 x2 d1 d2 m := by
 obtain ⟨S1, S2, e, h1, h2⟩ := h; exact ⟨S1, S2, e, h1.below hb, h2.below hb⟩
theorem zeh.chg (h : zeh w S x1 x2 d1 d2 m) (hc : Chg T w w') (hn : ∀ b ∈ S, b ∉ T) : zeh w' S x1 x2 d1 d2 m := by
 obtain ⟨S1, S2, e, h1, h2⟩ := h; exact ⟨S1, S2, e, h1.chg hc (fun b hb => hn b (by rw [e]; first | exact hb | exact List.mem_append_left _ hb | exact List.mem_append_right _ hb | exact List.mem_append_left _ (List.mem_append_left _ hb) | exact List.mem_append_left _ (List.mem_append_right _ hb) | exact List.mem_append_right _ (List.mem_append_left _ hb) | exact List.mem_append_right _ (List.mem_append_right _ hb))), h2.chg hc (fun b hb => hn b (by rw [e]; first | exact hb | exact List.mem_append_left _ hb | exact List.mem_append_right _ hb | exact List.mem_append_left _ (List.mem_append_left _ hb) | exact List.mem_append_left _ (List.mem_append_right _ hb) | exact List.mem_append_right _ (List.mem_append_left _ hb) | exact List.mem_append_right _ (List.mem_append_right _ hb)))⟩
end
def zc4 (a0 : Int) (d1 : List zad) (d2 : List RPl) (w : World) (e : Ending) (w' : World) : Prop :=
 ∃ x1 x2 S, e = .returned (.agg #[.int .i64 a0, x1, x2]) /\ za4 w' S x1 x2 d1 d2 /\ zbc w.heap.size w' S /\ Below w.heap.size w w'
def zge (w : World) (x1 x2 : Value) (d1 : List Int) (d2 : List zxy) : Prop := RdL cInt 1 w x1 d1 /\ RdL z0f 3 w x2 d2
section
variable {w w' : World} {S T : List Nat} {x1 x2 : Value} {d1 : List Int} {d2 : List zxy} {m : Int}
theorem zge.below (h : zge w x1 x2 d1 d2) (hb : Below w.heap.size w w') : zge w' x1 x2 d1 d2 := by
 obtain ⟨h1, h2⟩ := h; exact ⟨h1.below hb, h2.below hb⟩
theorem zge.forms (h : zge w x1 x2 d1 d2) : (∃ A c, x1 = .slice A d1.length c) /\ (∃ A c, x2 = .slice A d2.length c) := by
 obtain ⟨h1, h2⟩ := h; have f1 : (∃ A c, x1 = .slice A d1.length c) := by obtain ⟨A, c, e, _⟩ := h1.form; exact ⟨A, c, e⟩
 have f2 : (∃ A c, x2 = .slice A d2.length c) := by obtain ⟨A, c, e, _⟩ := h2.form; exact ⟨A, c, e⟩
 exact ⟨f1, f2⟩
end
def zak (w : World) (x1 x2 x3 : Value) (d1 : List zad) (d2 : List RPl) (d3 : List Int) : Prop := zaq w x1 x2 d1 d2 /\ RdL cInt 1 w x3 d3
def zai (w : World) (S : List Nat) (x1 x2 x3 : Value) (d1 : List zad) (d2 : List RPl) (d3 : List Int) : Prop := ∃ S1 S3, S = S1 ++ S3 /\ za4 w (S1) x1 x2 d1 d2 /\ OwL 3 cInt 1 w (S3) x3 d3
def zas (d1 : List zad) (d2 : List RPl) (d3 : List Int) : Nat := zam d1 d2 + d3.length
def zfe (w : World) (S : List Nat) (x1 x2 x3 : Value) (d1 : List zad) (d2 : List RPl) (d3 : List Int) (m : Int) : Prop := ∃ S1 S3, S = S1 ++ S3 /\ zeh w (S1) x1 x2 d1 d2 m /\ MkL 3 zx6 1 w (S3) x3 d3.length (m + zsf d1 d2)
section
variable {w w' : World} {S T : List Nat} {x1 x2 x3 : Value} {d1 : List zad} {d2 : List RPl} {d3 : List Int} {m : Int}
theorem zak.below (h : zak w x1 x2 x3 d1 d2 d3) (hb : Below w.heap.size w w') : zak w' x1 x2 x3 d1 d2 d3 := by
 obtain ⟨h1, h3⟩ := h; exact ⟨h1.below hb, h3.below hb⟩
theorem zak.forms (h : zak w x1 x2 x3 d1 d2 d3) : (∃ A c, x1 = .slice A d1.length c) /\ (∃ A c, x2 = .slice A d2.length c) /\ (∃ A c, x3 = .slice A d3.length c) := by
 obtain ⟨h1, h3⟩ := h; have f1 := h1.forms; obtain ⟨p1, p2⟩ := f1; have f3 : (∃ A c, x3 = .slice A d3.length c) := by obtain ⟨A, c, e, _⟩ := h3.form; exact ⟨A, c, e⟩
 exact ⟨p1, p2, f3⟩
theorem zai.rd (h : zai w S x1 x2 x3 d1 d2 d3) : zak w x1 x2 x3 d1 d2 d3 := by
 obtain ⟨S1, S3, _, h1, h3⟩ := h; exact ⟨h1.rd, h3.rd⟩
theorem zai.below (h : zai w S x1 x2 x3 d1 d2 d3) (hb : Below w.heap.size w w') : zai w' S x1 x2 x3 d1 d2 d3 := by
 obtain ⟨S1, S3, e, h1, h3⟩ := h; exact ⟨S1, S3, e, h1.below hb, h3.below hb⟩
theorem zai.chg (h : zai w S x1 x2 x3 d1 d2 d3) (hc : Chg T w w') (hn : ∀ b ∈ S, b ∉ T) : zai w' S x1 x2 x3 d1 d2 d3 := by
 obtain ⟨S1, S3, e, h1, h3⟩ := h; exact ⟨S1, S3, e, h1.chg hc (fun b hb => hn b (by rw [e]; first | exact hb | exact List.mem_append_left _ hb | exact List.mem_append_right _ hb | exact List.mem_append_left _ (List.mem_append_left _ hb) | exact List.mem_append_left _ (List.mem_append_right _ hb) | exact List.mem_append_right _ (List.mem_append_left _ hb) | exact List.mem_append_right _ (List.mem_append_right _ hb))), h3.chg hc (fun b hb => hn b (by rw [e]; first | exact hb | exact List.mem_append_left _ hb | exact List.mem_append_right _ hb | exact List.mem_append_left _ (List.mem_append_left _ hb) | exact List.mem_append_left _ (List.mem_append_right _ hb) | exact List.mem_append_right _ (List.mem_append_left _ hb) | exact List.mem_append_right _ (List.mem_append_right _ hb)))⟩
theorem zfe.below (h : zfe w S x1 x2 x3 d1 d2 d3 m) (hb : Below w.heap.size w w') : zfe w' S x1 x2 x3 d1 d2 d3 m := by
 obtain ⟨S1, S3, e, h1, h3⟩ := h; exact ⟨S1, S3, e, h1.below hb, h3.below hb⟩
theorem zfe.chg (h : zfe w S x1 x2 x3 d1 d2 d3 m) (hc : Chg T w w') (hn : ∀ b ∈ S, b ∉ T) : zfe w' S x1 x2 x3 d1 d2 d3 m := by
 obtain ⟨S1, S3, e, h1, h3⟩ := h; exact ⟨S1, S3, e, h1.chg hc (fun b hb => hn b (by rw [e]; first | exact hb | exact List.mem_append_left _ hb | exact List.mem_append_right _ hb | exact List.mem_append_left _ (List.mem_append_left _ hb) | exact List.mem_append_left _ (List.mem_append_right _ hb) | exact List.mem_append_right _ (List.mem_append_left _ hb) | exact List.mem_append_right _ (List.mem_append_right _ hb))), h3.chg hc (fun b hb => hn b (by rw [e]; first | exact hb | exact List.mem_append_left _ hb | exact List.mem_append_right _ hb | exact List.mem_append_left _ (List.mem_append_left _ hb) | exact List.mem_append_left _ (List.mem_append_right _ hb) | exact List.mem_append_right _ (List.mem_append_left _ hb) | exact List.mem_append_right _ (List.mem_append_right _ hb)))⟩
end
def zos (a0 : Int) (a4 : Int) (d1 : List zad) (d2 : List RPl) (d3 : List Int) (w : World) (e : Ending) (w' : World) : Prop :=
 ∃ x1 x2 x3 S, e = .returned (.agg #[.int .i64 a0, x1, x2, x3, .int .i64 a4]) /\ zai w' S x1 x2 x3 d1 d2 d3 /\ zbc w.heap.size w' S /\ Below w.heap.size w w'
end Go.Proofs.YtkbacoadejglkaaGreatDoor
