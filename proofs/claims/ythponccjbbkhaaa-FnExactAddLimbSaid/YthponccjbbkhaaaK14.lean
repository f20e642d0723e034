/- Contracts: AddLimb. Written by a program (gen_k14.py). -/
import Derived.Test.YthponccjbbkhaaaCPBody
import Derived.Test.YthponccjbbkhaaaB5
import Derived.Test.YthponccjbbkhaaaM8
import Derived.Deep.DeepCutAuto
namespace Go.Proofs.Ythponccjbbkhaaa
open Go.RowKit
def RetBody (n : Int) (ok : Bool) (l : List RLimb) (w : World) (e : Ending) (w' : World) : Prop :=
  ∃ x1 S, e = .returned (.tuple #[.agg #[.int .i64 n, x1], .bool ok]) ∧ OwBody w' S x1 l ∧ Fresh w.heap.size w' S ∧ Below w.heap.size w w'
def addB (n : Int) (l : List RLimb) (j len : Int) : Bool := (bodyB n l && inB j 0 (n - 1)) && bodyB (n + 1) (l ++ [(j, n, len)])
def addN (n : Int) (l : List RLimb) (j len : Int) : Int := if addB n l j len = true then n + 1 else n
def addL (n : Int) (l : List RLimb) (j len : Int) : List RLimb := if addB n l j len = true then l ++ [(j, n, len)] else l
theorem body_bd {n : Int} {l : List RLimb} (h : bodyB n l = true) : 1 ≤ n ∧ n ≤ 12 ∧ (l.length : Int) = n - 1 ∧ l.length ≤ 11 := by
  rw [bodyB, Bool.and_eq_true, Bool.and_eq_true, decide_eq_true_iff] at h
  have := inB_iff.1 h.1.1
  have := h.1.2
  omega
theorem add_sz (n : Int) (l : List RLimb) (j len : Int) : szBody (addL n l j len) ≤ szBody l ∨ szBody (addL n l j len) ≤ 1000 := by
  unfold addL
  split
  · rename_i h
    rw [addB, Bool.and_eq_true] at h
    have := body_bd h.2
    unfold szBody
    omega
  · exact .inl (Nat.le_refl _)
theorem add_f {n j len : Int} {l : List RLimb} {w w' : World} {e : Ending} (h : addB n l j len = false) (hr : RetBody n false l w e w') : RetBody (addN n l j len) (addB n l j len) (addL n l j len) w e w' := by rw [addN, addL, h]; exact hr
theorem add_t {n j len : Int} {l : List RLimb} {w w' : World} {e : Ending} (h : addB n l j len = true) (hr : RetBody (n + 1) true (l ++ [(j, n, len)]) w e w') : RetBody (addN n l j len) (addB n l j len) (addL n l j len) w e w' := by rw [addN, addL, h]; exact hr
theorem and3 {a b : Bool} (h1 : a = true) (h2 : b = true) : (a && b) = true := by rw [h1, h2]; rfl
set_option maxHeartbeats 8000000 in
set_option maxRecDepth 100000 in
theorem implAddLimb_any (n j len : Int) (v1 : Value) (l : List RLimb) (w : World) (h : RdBody w v1 l) (hsz : szBody l ≤ 1048576) :
    Calls Try.prog 52 #[.agg #[.int .i64 n, v1], .int .i64 j, .int .i64 len] w (RetBody (addN n l j len) (addB n l j len) (addL n l j len) w) := by
  obtain ⟨A1, n1, rfl⟩ := h.forms
  obtain ⟨i0, ii0, iz0, iz1, iz2⟩ := info_parts infoLimb
  go_enter Try.func52, Try.ntmps52
  go_wp2_with fail
  refine (bodyCopied_any n _ l _ (h.below (by (repeat' (first | (with_reducible exact Below.refl _ _) | (with_reducible assumption) | (with_reducible refine Below.setCell ?_ (by first | omega | (simp; omega) | (simp; done)) _) | (with_reducible refine Below.alloc ?_ (by first | omega | (simp; omega) | (simp; done)) _) | (with_reducible refine Below.drew ?_) | (with_reducible refine below_drewN ?_ _))))) hsz).mono ?_
  rintro e W1 ⟨x1, S, rfl, ow, f1, q⟩
  obtain ⟨B1, k1, rfl⟩ := ow.rd.forms
  have Lc : Loc W1 (w.heap.size) [.int .i64 n, .slice A1 l.length n1] := by have := ((Loc.new w #[.int .i64 n, .slice A1 l.length n1] 60).alloc _).below q; simpa using this
  have Lr : Loc W1 (w.heap.size + 1) [.int .i64 0, .slice none 0 0] := by have := (Loc.new (w.alloc (.cells #[.int .i64 n, .slice A1 l.length n1] 60)) #[.int .i64 0, .slice none 0 0] 60).below q; simpa using this
  have hb : Below w.heap.size w W1 := Below.trans (by (repeat' (first | (with_reducible exact Below.refl _ _) | (with_reducible assumption) | (with_reducible refine Below.setCell ?_ (by first | omega | (simp; omega) | (simp; done)) _) | (with_reducible refine Below.alloc ?_ (by first | omega | (simp; omega) | (simp; done)) _) | (with_reducible refine Below.drew ?_) | (with_reducible refine below_drewN ?_ _)))) (q.mono (by simp <;> omega))
  have hz0 : w.heap.size + 1 + 1 ≤ W1.heap.size := by have := q.size; simp at this; omega
  have hlow : w.heap.size + 1 + 1 ≤ (((w.alloc (.cells #[.int .i64 n, .slice A1 l.length n1] 60)).alloc (.cells #[.int .i64 0, .slice none 0 0] 60))).heap.size := by first | exact Nat.le_refl _ | (simp; done) | (simp; omega) | omega
  have FK := Lib.hid (fresh_mono f1 hlow (Nat.le_refl _))
  have DK : Hid (∀ x ∈ S, x ∉ [w.heap.size, w.heap.size + 1]) := (fun x hx => by have := (FK.out.2 x hx).1; simp; omega)
  have OK := Lib.hid ow
  clear ow f1 hlow
  clear q
  go_upto_region 2 with (fail)
  replace Lc : Loc (W1.alloc (.cells #[.int .i64 n, .slice B1 l.length k1] 60)) (w.heap.size) [.int .i64 n, .slice A1 l.length n1] := Lc.alloc _
  replace Lr : Loc (W1.alloc (.cells #[.int .i64 n, .slice B1 l.length k1] 60)) (w.heap.size + 1) [.int .i64 0, .slice none 0 0] := Lr.alloc _
  obtain ⟨go, hgo⟩ : ∃ g, W1.heap.size = g := ⟨_, rfl⟩
  have Lo : Loc (W1.alloc (.cells #[.int .i64 n, .slice B1 l.length k1] 60)) W1.heap.size [.int .i64 n, .slice B1 l.length k1] := Loc.new W1 #[.int .i64 n, .slice B1 l.length k1] 60
  rw [hgo] at Lo
  have OK' := Lib.hid (OK.out.below (w' := (W1.alloc (.cells #[.int .i64 n, .slice B1 l.length k1] 60))) ((Below.refl _ _).alloc (Nat.le_refl _) _))
  clear OK; have OK := OK'; clear OK'
  have DK' : Hid (∀ x ∈ S, x ∉ [w.heap.size, w.heap.size + 1, go]) := (fun x hx => by have := DK.out x hx; have := (FK.out.2 x hx).2; simp at *; omega)
  clear DK; have DK := DK'; clear DK'
  have FK' := Lib.hid (fresh_mono (w' := (W1.alloc (.cells #[.int .i64 n, .slice B1 l.length k1] 60))) FK.out (Nat.le_refl _) (by simp))
  clear FK; have FK := FK'; clear FK'
  replace hb : Below w.heap.size w (W1.alloc (.cells #[.int .i64 n, .slice B1 l.length k1] 60)) := hb.alloc hb.size _
  have hlto : go < (W1.alloc (.cells #[.int .i64 n, .slice B1 l.length k1] 60)).heap.size := by simp; omega
  have hne_c_o : w.heap.size < go := by omega
  have hne_r_o : w.heap.size + 1 < go := by omega
  generalize W1.alloc (.cells #[.int .i64 n, .slice B1 l.length k1] 60) = W2 at *
  rw [hgo]
  clear hgo
  have c0 := (Lc 0 _ rfl).1
  have c1 := (Lc 1 _ rfl).1
  go_wp2_with fail
  refine twoB (isJoint_any n j _ l _ (h.below hb)) (fun W3 hq q => ?_) (fun W3 hq q => ?_)
  · skip
    clear c0 c1
    have hzq : W2.heap.size ≤ W3.heap.size := by have := q.size; (try simp at this); omega
    replace Lc := Lc.below q
    replace Lr := Lr.below q
    replace Lo := Lo.below q
    have OK' := Lib.hid (OK.out.below q)
    clear OK; have OK := OK'; clear OK'
    have FK' := Lib.hid (fresh_mono (w' := W3) FK.out (Nat.le_refl _) hzq)
    clear FK; have FK := FK'; clear FK'
    replace hb : Below w.heap.size w W3 := hb.trans (q.mono hb.size)
    clear q
    have H1 := hq
    have hbd := body_bd (Bool.and_eq_true_iff.1 H1.out).1
    have oK : OwL 103 cLimb 3 W3 S (.slice B1 l.length k1) l := by obtain ⟨S1, rfl, h⟩ := OK.out; exact h
    have HeS := Lib.hid oK.2
    have Hown : Hid (W3.ownsRow (w.heap.size + 1 + 1) 103 3 (.slice B1 l.length k1) l.length (l.flatMap cLimb)) := own_up oK.1 (fun b hb => FK.out.2 b (by rw [HeS.out]; exact hb))
    clear oK
    have hx_c : Hid (w.heap.size ∉ (Value.slice B1 l.length k1).ownBlock.toList) := (fun hm => DK.out _ (by rw [HeS.out]; exact hm) (by simp))
    have hx_r : Hid (w.heap.size + 1 ∉ (Value.slice B1 l.length k1).ownBlock.toList) := (fun hm => DK.out _ (by rw [HeS.out]; exact hm) (by simp))
    have hx_o : Hid (go ∉ (Value.slice B1 l.length k1).ownBlock.toList) := (fun hm => DK.out _ (by rw [HeS.out]; exact hm) (by simp))
    have hwA : W3.heap.size ≤ (W3.alloc (.cells #[.int .i64 j, .int .i64 n, .int .i64 len] 103)).heap.size := by simp
    have c0 := (Lc 0 _ rfl).1
    have o0 := (Lo 0 _ rfl).1
    have o1 := (Lo 1 _ rfl).1
    have of1 := (Lo 1 _ rfl).2
    go_upto_region 5 with ((at_builtin; refine wpList_appendB _ rfl (.tmp 17) (.tmp 23) _ rfl (w.heap.size + 1 + 1) 103 i0 _ 3 24 Try.underlying58 ii0 iz0 iz1 iz2 rfl (by omega) _ l.length (l.flatMap cLimb) rfl (Hown.out.alloc _) _ 1 [.int .i64 j, .int .i64 n, .int .i64 len] rfl (rdS_new W3 #[.int .i64 j, .int .i64 n, .int .i64 len] _ 3 1 rfl (by simp [maxLen])) (by simp [Value.oneCell']) (by simp [maxLen]; omega) (by omega) (by simp; omega) ?_; intro v3 w3 own3 gr3 at3; obtain ⟨B3, k3, rfl, _, _⟩ := (RdS.of_own own3).form; have hch := Chg.of_grown gr3; have LoA : Loc (W3.alloc (.cells #[.int .i64 j, .int .i64 n, .int .i64 len] 103)) (go) [.int .i64 n, .slice B1 l.length k1] := Lo.alloc _; have ho := carryChg hch (LoA 1 _ rfl).1 hx_o.out; have hof := carryChgF hch (LoA 1 _ rfl).1 (LoA 1 _ rfl).2 hx_o.out))
    clear LoA c0 o0 o1 of1
    have hs3 := gr3.size
    replace Lc : Loc (w3.setCell ⟨go, 1, none⟩ (.slice B3 (l.length + 1) k3)) (w.heap.size) [.int .i64 n, .slice A1 l.length n1] := ((Lc.alloc _).chg hch hx_c.out).far (g := go) (i := 1) (u := .slice B3 (l.length + 1) k3) (by omega)
    replace Lr : Loc (w3.setCell ⟨go, 1, none⟩ (.slice B3 (l.length + 1) k3)) (w.heap.size + 1) [.int .i64 0, .slice none 0 0] := ((Lr.alloc _).chg hch hx_r.out).far (g := go) (i := 1) (u := .slice B3 (l.length + 1) k3) (by omega)
    replace Lo : Loc (w3.setCell ⟨go, 1, none⟩ (.slice B3 (l.length + 1) k3)) (go) [.int .i64 n, .slice B3 (l.length + 1) k3] := ((Lo.alloc _).chg hch hx_o.out).set (i := 1) (v := .slice B1 l.length k1) rfl
    have hT : ∀ b ∈ [w.heap.size, w.heap.size + 1, go], b < (W3.alloc (.cells #[.int .i64 j, .int .i64 n, .int .i64 len] 103)).heap.size ∧ b ∉ (Value.slice B1 l.length k1).ownBlock.toList := by
      intro b hb
      simp only [List.mem_cons, List.not_mem_nil, or_false] at hb
      rcases hb with rfl | rfl | rfl
      · exact ⟨by omega, hx_c.out⟩
      · exact ⟨by omega, hx_r.out⟩
      · exact ⟨by omega, hx_o.out⟩
    obtain ⟨f3, hd3⟩ := fresh_app own3 at3 hT
    have o3 : OwBody w3 (Value.slice B3 (l.length + 1) k3).ownBlock.toList (.slice B3 (l.length + 1) k3) (l ++ [(j, n, len)]) := ⟨_, rfl, by rw [List.length_append, List.flatMap_append]; exact own_mono own3 (Nat.zero_le _), rfl⟩
    have hset : Chg [go] w3 (w3.setCell ⟨go, 1, none⟩ (.slice B3 (l.length + 1) k3)) := by repeat' (first | (with_reducible exact Chg.refl _ _) | (with_reducible refine chg_set ?_ (by simp)))
    have ow4 := o3.chg hset (fun b hb hm => hd3 b hb (by simp at hm; subst hm; simp))
    have f4 := fresh_mono (w' := (w3.setCell ⟨go, 1, none⟩ (.slice B3 (l.length + 1) k3))) f3 (Nat.le_refl _) hset.size
    have hbA : Below w.heap.size w (W3.alloc (.cells #[.int .i64 j, .int .i64 n, .int .i64 len] 103)) := hb.alloc hb.size _
    replace hb : Below w.heap.size w (w3.setCell ⟨go, 1, none⟩ (.slice B3 (l.length + 1) k3)) := Below.chg (Below.chg hbA hch hbA.size (fun b hm => by have := (FK.out.2 b (by rw [HeS.out]; exact hm)).1; omega)) hset (by have := hbA.size; omega) (by simp; omega)
    have hgt : W3.heap.size ≤ (w3.setCell ⟨go, 1, none⟩ (.slice B3 (l.length + 1) k3)).heap.size := by rw [World.size_setCell]; omega
    clear o3 hset f3 own3 gr3 at3 hch ho hof hbA hs3 hT hwA HeS Hown hx_c hx_r hx_o OK FK DK
    generalize w3.setCell ⟨go, 1, none⟩ (.slice B3 (l.length + 1) k3) = W4 at *
    obtain ⟨S3, hS3⟩ : ∃ T, (Value.slice B3 (l.length + 1) k3).ownBlock.toList = T := ⟨_, rfl⟩
    rw [hS3] at ow4 f4 hd3
    clear hS3
    have OK := Lib.hid ow4
    have FK := Lib.hid f4
    have DK : Hid (∀ x ∈ S3, x ∉ [w.heap.size, w.heap.size + 1, go]) := hd3
    clear ow4 f4 hd3
    have c0 := (Lc 0 _ rfl).1
    have o0 := (Lo 0 _ rfl).1
    have of0 := (Lo 0 _ rfl).2
    have o1 := (Lo 1 _ rfl).1
    go_upto_region 6 with (fail)
    clear c0 o0 of0 o1
    replace Lc : Loc (W4.setCell ⟨go, 0, none⟩ (.int .i64 (n + 1))) (w.heap.size) [.int .i64 n, .slice A1 l.length n1] := Lc.far (g := go) (i := 0) (u := .int .i64 (n + 1)) (by omega)
    replace Lr : Loc (W4.setCell ⟨go, 0, none⟩ (.int .i64 (n + 1))) (w.heap.size + 1) [.int .i64 0, .slice none 0 0] := Lr.far (g := go) (i := 0) (u := .int .i64 (n + 1)) (by omega)
    replace Lo : Loc (W4.setCell ⟨go, 0, none⟩ (.int .i64 (n + 1))) (go) [.int .i64 (n + 1), .slice B3 (l.length + 1) k3] := Lo.set (i := 0) (v := .int .i64 n) rfl
    have hch : Chg [go] W4 (W4.setCell ⟨go, 0, none⟩ (.int .i64 (n + 1))) := chg_set (Chg.refl _ _) (by simp)
    have OK' := Lib.hid (OK.out.chg hch (fun x hx hx' => DK.out x hx (by simp at hx'; subst hx'; simp)))
    clear OK; have OK := OK'; clear OK'
    have FK' := Lib.hid (fresh_mono (w' := (W4.setCell ⟨go, 0, none⟩ (.int .i64 (n + 1)))) FK.out (Nat.le_refl _) hch.size)
    clear FK; have FK := FK'; clear FK'
    replace hb : Below w.heap.size w (W4.setCell ⟨go, 0, none⟩ (.int .i64 (n + 1))) := Below.chg hb hch hb.size (by simp; omega)
    have hzc := hch.size
    clear hch
    generalize W4.setCell ⟨go, 0, none⟩ (.int .i64 (n + 1)) = W5 at *
    have o0 := (Lo 0 _ rfl).1
    have o1 := (Lo 1 _ rfl).1
    go_wp2_with fail
    refine twoB (implBodyOk_any (n + 1) _ (l ++ [(j, n, len)]) _ OK.out.rd) (fun W6 hq2 q => ?_) (fun W6 hq2 q => ?_)
    · skip
      clear o0 o1
      have hzq : W5.heap.size ≤ W6.heap.size := by have := q.size; (try simp at this); omega
      replace Lc := Lc.below q
      replace Lr := Lr.below q
      replace Lo := Lo.below q
      have OK' := Lib.hid (OK.out.below q)
      clear OK; have OK := OK'; clear OK'
      have FK' := Lib.hid (fresh_mono (w' := W6) FK.out (Nat.le_refl _) hzq)
      clear FK; have FK := FK'; clear FK'
      replace hb : Below w.heap.size w W6 := hb.trans (q.mono hb.size)
      clear q
      have o0 := (Lo 0 _ rfl).1
      have o1 := (Lo 1 _ rfl).1
      have r0 := (Lr 0 _ rfl).1
      have rf0 := (Lr 0 _ rfl).2
      have r1 := (Lr 1 _ rfl).1
      have rf1 := (Lr 1 _ rfl).2
      go_wp2_with fail
      refine bodyPost_ret (v := .tuple #[.agg #[.int .i64 (n + 1), .slice B3 (l.length + 1) k3], .bool true]) (by simp [results, Try.results52, go_sem, *]) rfl (add_t (and3 H1.out hq2.out) ⟨_, S3, rfl, ?_, ?_, ?_⟩)
      · exact OK.out.chg (T := [w.heap.size + 1]) (by repeat' (first | (with_reducible exact Chg.refl _ _) | (with_reducible refine chg_set ?_ (by simp)))) (fun x hx hx' => DK.out x hx (by simp at hx'; subst hx'; simp))
      · exact fresh_mono FK.out (by omega) (by simp)
      · exact Below.chg hb (S := [w.heap.size + 1]) (by repeat' (first | (with_reducible exact Chg.refl _ _) | (with_reducible refine chg_set ?_ (by simp)))) hb.size (fun x hx => by simp at hx; omega)
    · skip
      clear o0 o1
      have hzq : W5.heap.size ≤ W6.heap.size := by have := q.size; (try simp at this); omega
      replace Lc := Lc.below q
      replace Lr := Lr.below q
      replace Lo := Lo.below q
      have OK' := Lib.hid (OK.out.below q)
      clear OK; have OK := OK'; clear OK'
      have FK' := Lib.hid (fresh_mono (w' := W6) FK.out (Nat.le_refl _) hzq)
      clear FK; have FK := FK'; clear FK'
      replace hb : Below w.heap.size w W6 := hb.trans (q.mono hb.size)
      clear q
      clear OK FK DK
      have c0 := (Lc 0 _ rfl).1
      have c1 := (Lc 1 _ rfl).1
      go_wp2_with fail
      refine (bodyCopied_any n _ l _ (h.below hb) hsz).mono ?_
      rintro e W7 ⟨x1, S9, rfl, ow, f1, q⟩
      clear c0 c1
      obtain ⟨B9, k9, rfl⟩ := ow.rd.forms
      have hzq : W6.heap.size ≤ W7.heap.size := by have := q.size; (try simp at this); omega
      replace Lc := Lc.below q
      replace Lr := Lr.below q
      replace Lo := Lo.below q
      replace hb : Below w.heap.size w W7 := hb.trans (q.mono hb.size)
      have hlow : W6.heap.size ≤ W6.heap.size := by first | exact Nat.le_refl _ | (simp; done) | (simp; omega) | omega
      have FM := Lib.hid (fresh_mono f1 hlow (Nat.le_refl _))
      have DM : Hid (∀ x ∈ S9, x ∉ [w.heap.size, w.heap.size + 1, go]) := (fun x hx => by have := (FM.out.2 x hx).1; simp; omega)
      have OM := Lib.hid ow
      clear ow f1 hlow
      clear q
      have r0 := (Lr 0 _ rfl).1
      have rf0 := (Lr 0 _ rfl).2
      have r1 := (Lr 1 _ rfl).1
      have rf1 := (Lr 1 _ rfl).2
      go_wp2_with fail
      refine bodyPost_ret (v := .tuple #[.agg #[.int .i64 n, .slice B9 l.length k9], .bool false]) (by simp [results, Try.results52, go_sem, *]) rfl (add_f (by rw [addB, hq2.out, Bool.and_false]) ⟨_, S9, rfl, ?_, ?_, ?_⟩)
      · exact OM.out.chg (T := [w.heap.size + 1]) (by repeat' (first | (with_reducible exact Chg.refl _ _) | (with_reducible refine chg_set ?_ (by simp)))) (fun x hx hx' => DM.out x hx (by simp at hx'; subst hx'; simp))
      · exact fresh_mono FM.out (by omega) (by simp)
      · exact Below.chg hb (S := [w.heap.size + 1]) (by repeat' (first | (with_reducible exact Chg.refl _ _) | (with_reducible refine chg_set ?_ (by simp)))) hb.size (fun x hx => by simp at hx; omega)
  · skip
    clear c0 c1
    have hzq : W2.heap.size ≤ W3.heap.size := by have := q.size; (try simp at this); omega
    replace Lc := Lc.below q
    replace Lr := Lr.below q
    replace Lo := Lo.below q
    have OK' := Lib.hid (OK.out.below q)
    clear OK; have OK := OK'; clear OK'
    have FK' := Lib.hid (fresh_mono (w' := W3) FK.out (Nat.le_refl _) hzq)
    clear FK; have FK := FK'; clear FK'
    replace hb : Below w.heap.size w W3 := hb.trans (q.mono hb.size)
    clear q
    have o0 := (Lo 0 _ rfl).1
    have o1 := (Lo 1 _ rfl).1
    have r0 := (Lr 0 _ rfl).1
    have rf0 := (Lr 0 _ rfl).2
    have r1 := (Lr 1 _ rfl).1
    have rf1 := (Lr 1 _ rfl).2
    go_wp2_with fail
    refine bodyPost_ret (v := .tuple #[.agg #[.int .i64 n, .slice B1 l.length k1], .bool false]) (by simp [results, Try.results52, go_sem, *]) rfl (add_f (by rw [addB, hq.out]; rfl) ⟨_, S, rfl, ?_, ?_, ?_⟩)
    · exact OK.out.chg (T := [w.heap.size + 1]) (by repeat' (first | (with_reducible exact Chg.refl _ _) | (with_reducible refine chg_set ?_ (by simp)))) (fun x hx hx' => DK.out x hx (by simp at hx'; subst hx'; simp))
    · exact fresh_mono FK.out (by omega) (by simp)
    · exact Below.chg hb (S := [w.heap.size + 1]) (by repeat' (first | (with_reducible exact Chg.refl _ _) | (with_reducible refine chg_set ?_ (by simp)))) hb.size (fun x hx => by simp at hx; omega)
set_option maxHeartbeats 8000000 in
set_option maxRecDepth 100000 in
theorem specAddLimb_any (n j len : Int) (v1 : Value) (l : List RLimb) (w : World) (h : RdBody w v1 l) (hsz : szBody l ≤ 1048576) :
    Calls Try.prog 59 #[.agg #[.int .i64 n, v1], .int .i64 j, .int .i64 len] w (RetBody (addN n l j len) (addB n l j len) (addL n l j len) w) := by
  obtain ⟨A1, n1, rfl⟩ := h.forms
  obtain ⟨i0, ii0, iz0, iz1, iz2⟩ := info_parts infoLimb
  go_enter Try.func59, Try.ntmps59
  go_wp2_with fail
  refine twoB (specBodyOk_any n _ l _ (RdBody.below h (by (repeat' (first | (with_reducible exact Below.refl _ _) | (with_reducible assumption) | (with_reducible refine Below.setCell ?_ (by first | omega | (simp; omega) | (simp; done)) _) | (with_reducible refine Below.alloc ?_ (by first | omega | (simp; omega) | (simp; done)) _) | (with_reducible refine Below.drew ?_) | (with_reducible refine below_drewN ?_ _)))))) (fun W1 hq q => ?_) (fun W1 hq q => ?_)
  · skip
    have Lc : Loc W1 (w.heap.size) [.int .i64 n, .slice A1 l.length n1] := by have := ((Loc.new w #[.int .i64 n, .slice A1 l.length n1] 60).alloc _).below q; simpa using this
    have Lr : Loc W1 (w.heap.size + 1) [.int .i64 0, .slice none 0 0] := by have := (Loc.new (w.alloc (.cells #[.int .i64 n, .slice A1 l.length n1] 60)) #[.int .i64 0, .slice none 0 0] 60).below q; simpa using this
    have hb : Below w.heap.size w W1 := Below.trans (by (repeat' (first | (with_reducible exact Below.refl _ _) | (with_reducible assumption) | (with_reducible refine Below.setCell ?_ (by first | omega | (simp; omega) | (simp; done)) _) | (with_reducible refine Below.alloc ?_ (by first | omega | (simp; omega) | (simp; done)) _) | (with_reducible refine Below.drew ?_) | (with_reducible refine below_drewN ?_ _)))) (q.mono (by simp <;> omega))
    have hz0 : w.heap.size + 1 + 1 ≤ W1.heap.size := by have := q.size; simp at this; omega
    clear q
    have hbd0 := body_bd hq.out
    have c0 := (Lc 0 _ rfl).1
    have c1 := (Lc 1 _ rfl).1
    go_wp2_with (go_at_call 78; refine twoI (l01In_any _ _ _ _) (fun hc hm hm' => ?_) (fun hc => ?_))
    · skip
      refine (l02Copy_any n _ l _ (h.below hb) hsz).mono ?_
      rintro e W2 ⟨x1, S, rfl, ow, f1, q⟩
      clear c0 c1
      obtain ⟨B1, k1, rfl⟩ := ow.rd.forms
      have hzq : W1.heap.size ≤ W2.heap.size := by have := q.size; (try simp at this); omega
      replace Lc := Lc.below q
      replace Lr := Lr.below q
      replace hb : Below w.heap.size w W2 := hb.trans (q.mono hb.size)
      have hlow : W1.heap.size ≤ W1.heap.size := by first | exact Nat.le_refl _ | (simp; done) | (simp; omega) | omega
      have FK := Lib.hid (fresh_mono f1 hlow (Nat.le_refl _))
      have DK : Hid (∀ x ∈ S, x ∉ [w.heap.size, w.heap.size + 1]) := (fun x hx => by have := (FK.out.2 x hx).1; simp; omega)
      have OK := Lib.hid ow
      clear ow f1 hlow
      clear q
      have FK' := Lib.hid (fresh_mono FK.out hz0 (Nat.le_refl _))
      clear FK; have FK := FK'; clear FK'
      go_upto_region 4 with (fail)
      replace Lc : Loc (W2.alloc (.cells #[.int .i64 n, .slice B1 l.length k1] 60)) (w.heap.size) [.int .i64 n, .slice A1 l.length n1] := Lc.alloc _
      replace Lr : Loc (W2.alloc (.cells #[.int .i64 n, .slice B1 l.length k1] 60)) (w.heap.size + 1) [.int .i64 0, .slice none 0 0] := Lr.alloc _
      obtain ⟨go, hgo⟩ : ∃ g, W2.heap.size = g := ⟨_, rfl⟩
      have Lo : Loc (W2.alloc (.cells #[.int .i64 n, .slice B1 l.length k1] 60)) W2.heap.size [.int .i64 n, .slice B1 l.length k1] := Loc.new W2 #[.int .i64 n, .slice B1 l.length k1] 60
      rw [hgo] at Lo
      have OK' := Lib.hid (OK.out.below (w' := (W2.alloc (.cells #[.int .i64 n, .slice B1 l.length k1] 60))) ((Below.refl _ _).alloc (Nat.le_refl _) _))
      clear OK; have OK := OK'; clear OK'
      have DK' : Hid (∀ x ∈ S, x ∉ [w.heap.size, w.heap.size + 1, go]) := (fun x hx => by have := DK.out x hx; have := (FK.out.2 x hx).2; simp at *; omega)
      clear DK; have DK := DK'; clear DK'
      have FK' := Lib.hid (fresh_mono (w' := (W2.alloc (.cells #[.int .i64 n, .slice B1 l.length k1] 60))) FK.out (Nat.le_refl _) (by simp))
      clear FK; have FK := FK'; clear FK'
      replace hb : Below w.heap.size w (W2.alloc (.cells #[.int .i64 n, .slice B1 l.length k1] 60)) := hb.alloc hb.size _
      have hlto : go < (W2.alloc (.cells #[.int .i64 n, .slice B1 l.length k1] 60)).heap.size := by simp; omega
      have hne_c_o : w.heap.size < go := by omega
      have hne_r_o : w.heap.size + 1 < go := by omega
      generalize W2.alloc (.cells #[.int .i64 n, .slice B1 l.length k1] 60) = W3 at *
      rw [hgo]
      clear hgo
      have H1 : Hid ((bodyB n l && inB j 0 (n - 1)) = true) := and3 hq.out hc.out
      have hbd := body_bd (Bool.and_eq_true_iff.1 H1.out).1
      have c0 := (Lc 0 _ rfl).1
      have o0 := (Lo 0 _ rfl).1
      have of0 := (Lo 0 _ rfl).2
      have o1 := (Lo 1 _ rfl).1
      go_upto_region 5 with (fail)
      clear c0 o0 of0 o1
      replace Lc : Loc (W3.setCell ⟨go, 0, none⟩ (.int .i64 (n + 1))) (w.heap.size) [.int .i64 n, .slice A1 l.length n1] := Lc.far (g := go) (i := 0) (u := .int .i64 (n + 1)) (by omega)
      replace Lr : Loc (W3.setCell ⟨go, 0, none⟩ (.int .i64 (n + 1))) (w.heap.size + 1) [.int .i64 0, .slice none 0 0] := Lr.far (g := go) (i := 0) (u := .int .i64 (n + 1)) (by omega)
      replace Lo : Loc (W3.setCell ⟨go, 0, none⟩ (.int .i64 (n + 1))) (go) [.int .i64 (n + 1), .slice B1 l.length k1] := Lo.set (i := 0) (v := .int .i64 n) rfl
      have hch : Chg [go] W3 (W3.setCell ⟨go, 0, none⟩ (.int .i64 (n + 1))) := chg_set (Chg.refl _ _) (by simp)
      have OK' := Lib.hid (OK.out.chg hch (fun x hx hx' => DK.out x hx (by simp at hx'; subst hx'; simp)))
      clear OK; have OK := OK'; clear OK'
      have FK' := Lib.hid (fresh_mono (w' := (W3.setCell ⟨go, 0, none⟩ (.int .i64 (n + 1)))) FK.out (Nat.le_refl _) hch.size)
      clear FK; have FK := FK'; clear FK'
      replace hb : Below w.heap.size w (W3.setCell ⟨go, 0, none⟩ (.int .i64 (n + 1))) := Below.chg hb hch hb.size (by simp; omega)
      have hzc := hch.size
      clear hch
      generalize W3.setCell ⟨go, 0, none⟩ (.int .i64 (n + 1)) = W4 at *
      have oK : OwL 103 cLimb 3 W4 S (.slice B1 l.length k1) l := by obtain ⟨S1, rfl, h⟩ := OK.out; exact h
      have HeS := Lib.hid oK.2
      have Hown : Hid (W4.ownsRow (w.heap.size + 1 + 1) 103 3 (.slice B1 l.length k1) l.length (l.flatMap cLimb)) := own_up oK.1 (fun b hb => FK.out.2 b (by rw [HeS.out]; exact hb))
      clear oK
      have hx_c : Hid (w.heap.size ∉ (Value.slice B1 l.length k1).ownBlock.toList) := (fun hm => DK.out _ (by rw [HeS.out]; exact hm) (by simp))
      have hx_r : Hid (w.heap.size + 1 ∉ (Value.slice B1 l.length k1).ownBlock.toList) := (fun hm => DK.out _ (by rw [HeS.out]; exact hm) (by simp))
      have hx_o : Hid (go ∉ (Value.slice B1 l.length k1).ownBlock.toList) := (fun hm => DK.out _ (by rw [HeS.out]; exact hm) (by simp))
      have hwA : W4.heap.size ≤ (W4.alloc (.cells #[.int .i64 j, .int .i64 n, .int .i64 len] 103)).heap.size := by simp
      have c0 := (Lc 0 _ rfl).1
      have o0 := (Lo 0 _ rfl).1
      have o1 := (Lo 1 _ rfl).1
      have of1 := (Lo 1 _ rfl).2
      go_upto_region 6 with ((at_builtin; refine wpList_appendB _ rfl (.tmp 29) (.tmp 35) _ rfl (w.heap.size + 1 + 1) 103 i0 _ 3 24 Try.underlying58 ii0 iz0 iz1 iz2 rfl (by omega) _ l.length (l.flatMap cLimb) rfl (Hown.out.alloc _) _ 1 [.int .i64 j, .int .i64 n, .int .i64 len] rfl (rdS_new W4 #[.int .i64 j, .int .i64 n, .int .i64 len] _ 3 1 rfl (by simp [maxLen])) (by simp [Value.oneCell']) (by simp [maxLen]; omega) (by omega) (by simp; omega) ?_; intro v3 w3 own3 gr3 at3; obtain ⟨B3, k3, rfl, _, _⟩ := (RdS.of_own own3).form; have hch := Chg.of_grown gr3; have LoA : Loc (W4.alloc (.cells #[.int .i64 j, .int .i64 n, .int .i64 len] 103)) (go) [.int .i64 (n + 1), .slice B1 l.length k1] := Lo.alloc _; have ho := carryChg hch (LoA 1 _ rfl).1 hx_o.out; have hof := carryChgF hch (LoA 1 _ rfl).1 (LoA 1 _ rfl).2 hx_o.out))
      clear LoA c0 o0 o1 of1
      have hs3 := gr3.size
      replace Lc : Loc (w3.setCell ⟨go, 1, none⟩ (.slice B3 (l.length + 1) k3)) (w.heap.size) [.int .i64 n, .slice A1 l.length n1] := ((Lc.alloc _).chg hch hx_c.out).far (g := go) (i := 1) (u := .slice B3 (l.length + 1) k3) (by omega)
      replace Lr : Loc (w3.setCell ⟨go, 1, none⟩ (.slice B3 (l.length + 1) k3)) (w.heap.size + 1) [.int .i64 0, .slice none 0 0] := ((Lr.alloc _).chg hch hx_r.out).far (g := go) (i := 1) (u := .slice B3 (l.length + 1) k3) (by omega)
      replace Lo : Loc (w3.setCell ⟨go, 1, none⟩ (.slice B3 (l.length + 1) k3)) (go) [.int .i64 (n + 1), .slice B3 (l.length + 1) k3] := ((Lo.alloc _).chg hch hx_o.out).set (i := 1) (v := .slice B1 l.length k1) rfl
      have hT : ∀ b ∈ [w.heap.size, w.heap.size + 1, go], b < (W4.alloc (.cells #[.int .i64 j, .int .i64 n, .int .i64 len] 103)).heap.size ∧ b ∉ (Value.slice B1 l.length k1).ownBlock.toList := by
        intro b hb
        simp only [List.mem_cons, List.not_mem_nil, or_false] at hb
        rcases hb with rfl | rfl | rfl
        · exact ⟨by omega, hx_c.out⟩
        · exact ⟨by omega, hx_r.out⟩
        · exact ⟨by omega, hx_o.out⟩
      obtain ⟨f3, hd3⟩ := fresh_app own3 at3 hT
      have o3 : OwBody w3 (Value.slice B3 (l.length + 1) k3).ownBlock.toList (.slice B3 (l.length + 1) k3) (l ++ [(j, n, len)]) := ⟨_, rfl, by rw [List.length_append, List.flatMap_append]; exact own_mono own3 (Nat.zero_le _), rfl⟩
      have hset : Chg [go] w3 (w3.setCell ⟨go, 1, none⟩ (.slice B3 (l.length + 1) k3)) := by repeat' (first | (with_reducible exact Chg.refl _ _) | (with_reducible refine chg_set ?_ (by simp)))
      have ow4 := o3.chg hset (fun b hb hm => hd3 b hb (by simp at hm; subst hm; simp))
      have f4 := fresh_mono (w' := (w3.setCell ⟨go, 1, none⟩ (.slice B3 (l.length + 1) k3))) f3 (Nat.le_refl _) hset.size
      have hbA : Below w.heap.size w (W4.alloc (.cells #[.int .i64 j, .int .i64 n, .int .i64 len] 103)) := hb.alloc hb.size _
      replace hb : Below w.heap.size w (w3.setCell ⟨go, 1, none⟩ (.slice B3 (l.length + 1) k3)) := Below.chg (Below.chg hbA hch hbA.size (fun b hm => by have := (FK.out.2 b (by rw [HeS.out]; exact hm)).1; omega)) hset (by have := hbA.size; omega) (by simp; omega)
      have hgt : W4.heap.size ≤ (w3.setCell ⟨go, 1, none⟩ (.slice B3 (l.length + 1) k3)).heap.size := by rw [World.size_setCell]; omega
      clear o3 hset f3 own3 gr3 at3 hch ho hof hbA hs3 hT hwA HeS Hown hx_c hx_r hx_o OK FK DK
      generalize w3.setCell ⟨go, 1, none⟩ (.slice B3 (l.length + 1) k3) = W5 at *
      obtain ⟨S3, hS3⟩ : ∃ T, (Value.slice B3 (l.length + 1) k3).ownBlock.toList = T := ⟨_, rfl⟩
      rw [hS3] at ow4 f4 hd3
      clear hS3
      have OK := Lib.hid ow4
      have FK := Lib.hid f4
      have DK : Hid (∀ x ∈ S3, x ∉ [w.heap.size, w.heap.size + 1, go]) := hd3
      clear ow4 f4 hd3
      have o0 := (Lo 0 _ rfl).1
      have o1 := (Lo 1 _ rfl).1
      go_wp2_with fail
      refine twoB (specBodyOk_any (n + 1) _ (l ++ [(j, n, len)]) _ OK.out.rd) (fun W6 hq2 q => ?_) (fun W6 hq2 q => ?_)
      · skip
        clear o0 o1
        have hzq : W5.heap.size ≤ W6.heap.size := by have := q.size; (try simp at this); omega
        replace Lc := Lc.below q
        replace Lr := Lr.below q
        replace Lo := Lo.below q
        have OK' := Lib.hid (OK.out.below q)
        clear OK; have OK := OK'; clear OK'
        have FK' := Lib.hid (fresh_mono (w' := W6) FK.out (Nat.le_refl _) hzq)
        clear FK; have FK := FK'; clear FK'
        replace hb : Below w.heap.size w W6 := hb.trans (q.mono hb.size)
        clear q
        have o0 := (Lo 0 _ rfl).1
        have o1 := (Lo 1 _ rfl).1
        have r0 := (Lr 0 _ rfl).1
        have rf0 := (Lr 0 _ rfl).2
        have r1 := (Lr 1 _ rfl).1
        have rf1 := (Lr 1 _ rfl).2
        go_wp2_with fail
        refine bodyPost_ret (v := .tuple #[.agg #[.int .i64 (n + 1), .slice B3 (l.length + 1) k3], .bool true]) (by simp [results, Try.results59, go_sem, *]) rfl (add_t (and3 H1.out hq2.out) ⟨_, S3, rfl, ?_, ?_, ?_⟩)
        · exact OK.out.chg (T := [w.heap.size + 1]) (by repeat' (first | (with_reducible exact Chg.refl _ _) | (with_reducible refine chg_set ?_ (by simp)))) (fun x hx hx' => DK.out x hx (by simp at hx'; subst hx'; simp))
        · exact fresh_mono FK.out (by omega) (by simp)
        · exact Below.chg hb (S := [w.heap.size + 1]) (by repeat' (first | (with_reducible exact Chg.refl _ _) | (with_reducible refine chg_set ?_ (by simp)))) hb.size (fun x hx => by simp at hx; omega)
      · skip
        clear o0 o1
        have hzq : W5.heap.size ≤ W6.heap.size := by have := q.size; (try simp at this); omega
        replace Lc := Lc.below q
        replace Lr := Lr.below q
        replace Lo := Lo.below q
        have OK' := Lib.hid (OK.out.below q)
        clear OK; have OK := OK'; clear OK'
        have FK' := Lib.hid (fresh_mono (w' := W6) FK.out (Nat.le_refl _) hzq)
        clear FK; have FK := FK'; clear FK'
        replace hb : Below w.heap.size w W6 := hb.trans (q.mono hb.size)
        clear q
        clear OK FK DK
        have c0 := (Lc 0 _ rfl).1
        have c1 := (Lc 1 _ rfl).1
        go_wp2_with fail
        refine (l02Copy_any n _ l _ (h.below hb) hsz).mono ?_
        rintro e W7 ⟨x1, S9, rfl, ow, f1, q⟩
        clear c0 c1
        obtain ⟨B9, k9, rfl⟩ := ow.rd.forms
        have hzq : W6.heap.size ≤ W7.heap.size := by have := q.size; (try simp at this); omega
        replace Lc := Lc.below q
        replace Lr := Lr.below q
        replace Lo := Lo.below q
        replace hb : Below w.heap.size w W7 := hb.trans (q.mono hb.size)
        have hlow : W6.heap.size ≤ W6.heap.size := by first | exact Nat.le_refl _ | (simp; done) | (simp; omega) | omega
        have FM := Lib.hid (fresh_mono f1 hlow (Nat.le_refl _))
        have DM : Hid (∀ x ∈ S9, x ∉ [w.heap.size, w.heap.size + 1, go]) := (fun x hx => by have := (FM.out.2 x hx).1; simp; omega)
        have OM := Lib.hid ow
        clear ow f1 hlow
        clear q
        have r0 := (Lr 0 _ rfl).1
        have rf0 := (Lr 0 _ rfl).2
        have r1 := (Lr 1 _ rfl).1
        have rf1 := (Lr 1 _ rfl).2
        go_wp2_with fail
        refine bodyPost_ret (v := .tuple #[.agg #[.int .i64 n, .slice B9 l.length k9], .bool false]) (by simp [results, Try.results59, go_sem, *]) rfl (add_f (by rw [addB, hq2.out, Bool.and_false]) ⟨_, S9, rfl, ?_, ?_, ?_⟩)
        · exact OM.out.chg (T := [w.heap.size + 1]) (by repeat' (first | (with_reducible exact Chg.refl _ _) | (with_reducible refine chg_set ?_ (by simp)))) (fun x hx hx' => DM.out x hx (by simp at hx'; subst hx'; simp))
        · exact fresh_mono FM.out (by omega) (by simp)
        · exact Below.chg hb (S := [w.heap.size + 1]) (by repeat' (first | (with_reducible exact Chg.refl _ _) | (with_reducible refine chg_set ?_ (by simp)))) hb.size (fun x hx => by simp at hx; omega)
    · skip
      refine (l02Copy_any n _ l _ (h.below hb) hsz).mono ?_
      rintro e W2 ⟨x1, S9, rfl, ow, f1, q⟩
      clear c0 c1
      obtain ⟨B9, k9, rfl⟩ := ow.rd.forms
      have hzq : W1.heap.size ≤ W2.heap.size := by have := q.size; (try simp at this); omega
      replace Lc := Lc.below q
      replace Lr := Lr.below q
      replace hb : Below w.heap.size w W2 := hb.trans (q.mono hb.size)
      have hlow : W1.heap.size ≤ W1.heap.size := by first | exact Nat.le_refl _ | (simp; done) | (simp; omega) | omega
      have FM := Lib.hid (fresh_mono f1 hlow (Nat.le_refl _))
      have DM : Hid (∀ x ∈ S9, x ∉ [w.heap.size, w.heap.size + 1]) := (fun x hx => by have := (FM.out.2 x hx).1; simp; omega)
      have OM := Lib.hid ow
      clear ow f1 hlow
      clear q
      have r0 := (Lr 0 _ rfl).1
      have rf0 := (Lr 0 _ rfl).2
      have r1 := (Lr 1 _ rfl).1
      have rf1 := (Lr 1 _ rfl).2
      go_wp2_with fail
      refine bodyPost_ret (v := .tuple #[.agg #[.int .i64 n, .slice B9 l.length k9], .bool false]) (by simp [results, Try.results59, go_sem, *]) rfl (add_f (by rw [addB, hc.out, Bool.and_false]; rfl) ⟨_, S9, rfl, ?_, ?_, ?_⟩)
      · exact OM.out.chg (T := [w.heap.size + 1]) (by repeat' (first | (with_reducible exact Chg.refl _ _) | (with_reducible refine chg_set ?_ (by simp)))) (fun x hx hx' => DM.out x hx (by simp at hx'; subst hx'; simp))
      · exact fresh_mono FM.out (by omega) (by simp)
      · exact Below.chg hb (S := [w.heap.size + 1]) (by repeat' (first | (with_reducible exact Chg.refl _ _) | (with_reducible refine chg_set ?_ (by simp)))) hb.size (fun x hx => by simp at hx; omega)
  · skip
    have Lc : Loc W1 (w.heap.size) [.int .i64 n, .slice A1 l.length n1] := by have := ((Loc.new w #[.int .i64 n, .slice A1 l.length n1] 60).alloc _).below q; simpa using this
    have Lr : Loc W1 (w.heap.size + 1) [.int .i64 0, .slice none 0 0] := by have := (Loc.new (w.alloc (.cells #[.int .i64 n, .slice A1 l.length n1] 60)) #[.int .i64 0, .slice none 0 0] 60).below q; simpa using this
    have hb : Below w.heap.size w W1 := Below.trans (by (repeat' (first | (with_reducible exact Below.refl _ _) | (with_reducible assumption) | (with_reducible refine Below.setCell ?_ (by first | omega | (simp; omega) | (simp; done)) _) | (with_reducible refine Below.alloc ?_ (by first | omega | (simp; omega) | (simp; done)) _) | (with_reducible refine Below.drew ?_) | (with_reducible refine below_drewN ?_ _)))) (q.mono (by simp <;> omega))
    have hz0 : w.heap.size + 1 + 1 ≤ W1.heap.size := by have := q.size; simp at this; omega
    clear q
    have c0 := (Lc 0 _ rfl).1
    have c1 := (Lc 1 _ rfl).1
    go_wp2_with fail
    refine (l02Copy_any n _ l _ (h.below hb) hsz).mono ?_
    rintro e W2 ⟨x1, S9, rfl, ow, f1, q⟩
    clear c0 c1
    obtain ⟨B9, k9, rfl⟩ := ow.rd.forms
    have hzq : W1.heap.size ≤ W2.heap.size := by have := q.size; (try simp at this); omega
    replace Lc := Lc.below q
    replace Lr := Lr.below q
    replace hb : Below w.heap.size w W2 := hb.trans (q.mono hb.size)
    have hlow : W1.heap.size ≤ W1.heap.size := by first | exact Nat.le_refl _ | (simp; done) | (simp; omega) | omega
    have FM := Lib.hid (fresh_mono f1 hlow (Nat.le_refl _))
    have DM : Hid (∀ x ∈ S9, x ∉ [w.heap.size, w.heap.size + 1]) := (fun x hx => by have := (FM.out.2 x hx).1; simp; omega)
    have OM := Lib.hid ow
    clear ow f1 hlow
    clear q
    have r0 := (Lr 0 _ rfl).1
    have rf0 := (Lr 0 _ rfl).2
    have r1 := (Lr 1 _ rfl).1
    have rf1 := (Lr 1 _ rfl).2
    go_wp2_with fail
    refine bodyPost_ret (v := .tuple #[.agg #[.int .i64 n, .slice B9 l.length k9], .bool false]) (by simp [results, Try.results59, go_sem, *]) rfl (add_f (by rw [addB, hq.out]; rfl) ⟨_, S9, rfl, ?_, ?_, ?_⟩)
    · exact OM.out.chg (T := [w.heap.size + 1]) (by repeat' (first | (with_reducible exact Chg.refl _ _) | (with_reducible refine chg_set ?_ (by simp)))) (fun x hx hx' => DM.out x hx (by simp at hx'; subst hx'; simp))
    · exact fresh_mono FM.out (by omega) (by simp)
    · exact Below.chg hb (S := [w.heap.size + 1]) (by repeat' (first | (with_reducible exact Chg.refl _ _) | (with_reducible refine chg_set ?_ (by simp)))) hb.size (fun x hx => by simp at hx; omega)
theorem add2 (n j len : Int) (l : List RLimb) : ∃ n' ok l', (szBody l' ≤ szBody l ∨ szBody l' ≤ 1000) ∧
    (∀ W v1, RdBody W v1 l → szBody l ≤ 1048576 → Calls Try.prog 59 #[.agg #[.int .i64 n, v1], .int .i64 j, .int .i64 len] W (RetBody n' ok l' W)) ∧
    (∀ W v1, RdBody W v1 l → szBody l ≤ 1048576 → Calls Try.prog 52 #[.agg #[.int .i64 n, v1], .int .i64 j, .int .i64 len] W (RetBody n' ok l' W)) :=
  ⟨_, _, _, add_sz n l j len, fun W v1 h hs => specAddLimb_any n j len v1 l W h hs, fun W v1 h hs => implAddLimb_any n j len v1 l W h hs⟩
end Go.Proofs.Ythponccjbbkhaaa
