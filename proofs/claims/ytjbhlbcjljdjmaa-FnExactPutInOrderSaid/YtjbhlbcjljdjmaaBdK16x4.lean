/- Several texts in one: Contracts: a company goes home (both). Written by a program (gen_k16.py). Unwinding, of the reference. Written by a program (gen_z3.py). Contracts: a company untwists (both). Written by a program (gen_k16.py). Contracts: PutInOrder. Written by a program (gen_k19.py). -/
import Derived.Test.YtjbhlbcjljdjmaaBdK7x5
import Derived.Test.YtjbhlbcjljdjmaaBdY7x5
import Derived.Test.YtjbhlbcjljdjmaaBdK8x3
namespace Go.Proofs.Ytjbhlbcjljdjmaa
open Go.RowKit
def goB (n : Int) (cs : List RCross) (pl : List RPl) : Bool := withB n cs pl (homeL n cs)
def goC (n : Int) (cs : List RCross) (pl : List RPl) : List RCross := withC n cs pl (homeL n cs)
theorem go_sz (n : Int) (cs : List RCross) (pl : List RPl) : szCompany (goC n cs pl) pl ≤ szCompany cs pl ∨ szCompany (goC n cs pl) pl ≤ 1000 := with_sz n cs pl _
set_option maxHeartbeats 8000000 in
set_option maxRecDepth 100000 in
theorem implGoHome_any (n : Int) (v1 v2 : Value) (cs : List RCross) (pl : List RPl) (w : World) (h : RdCompany w v1 v2 cs pl) (hsz : szCompany cs pl ≤ 1048576) :
    Calls Try.prog 44 #[.agg #[.int .i64 n, v1, v2]] w (RetCompany n (goB n cs pl) (goC n cs pl) pl w) := by
  obtain ⟨⟨A1, n1, rfl⟩, ⟨A2, n2, rfl⟩⟩ := h.forms
  unfold goB goC
  have hll := homeL_len n cs
  have HC : Hid (∀ (W : World) (v : Value), RdL cCross 2 W v cs → Calls Try.prog 103 #[.int .i64 n, v] W fun e w' => ∃ v', e = .returned (.tuple #[v', .bool (crossesB n cs)]) ∧ w'.ownsRow W.heap.size 115 2 v' (homeL n cs).length ((homeL n cs).flatMap cCross) ∧ Below W.heap.size W w') := fun W v hr => implBringHome_any n v cs W hr
  have HW : Hid (∀ (W : World) (vl v1 v2 : Value), RdCompany W v1 v2 cs pl → RdL cCross 2 W vl (homeL n cs) → Calls Try.prog 74 #[.agg #[.int .i64 n, v1, v2], vl] W (RetCompany n (withB n cs pl (homeL n cs)) (withC n cs pl (homeL n cs)) pl W)) := fun W vl v1 v2 h1 h2 => implWith_any n v1 v2 vl cs pl (homeL n cs) W h1 h2 (by omega) hsz
  generalize homeL n cs = hl at *
  generalize withB n cs pl hl = ok at *
  generalize withC n cs pl hl = cs' at *
  go_enter Try.func44, Try.ntmps44
  go_wp2_with fail
  refine (HC.out _ _ (h.below (by (repeat' (first | (with_reducible exact Below.refl _ _) | (with_reducible assumption) | (with_reducible refine Below.setCell ?_ (by first | omega | (simp; omega) | (simp; done)) _) | (with_reducible refine Below.alloc ?_ (by first | omega | (simp; omega) | (simp; done)) _) | (with_reducible refine Below.drew ?_) | (with_reducible refine below_drewN ?_ _))))).1).mono ?_
  rintro e W1 ⟨vl, rfl, ownl, q⟩
  have hvl : RdL cCross 2 W1 vl hl := RdS.of_own ownl
  clear ownl
  generalize crossesB n cs = okh at *
  obtain ⟨Al, cl, rfl, _, _⟩ := hvl.form
  have Lc : Loc W1 (w.heap.size) [.int .i64 n, .slice A1 cs.length n1, .slice A2 pl.length n2] := by have := ((Loc.new w #[.int .i64 n, .slice A1 cs.length n1, .slice A2 pl.length n2] 47).alloc _).below q; simpa using this
  have Lr : Loc W1 (w.heap.size + 1) [.int .i64 0, .slice none 0 0, .slice none 0 0] := by have := (Loc.new (w.alloc (.cells #[.int .i64 n, .slice A1 cs.length n1, .slice A2 pl.length n2] 47)) #[.int .i64 0, .slice none 0 0, .slice none 0 0] 47).below q; simpa using this
  have hb : Below w.heap.size w W1 := Below.trans (by (repeat' (first | (with_reducible exact Below.refl _ _) | (with_reducible assumption) | (with_reducible refine Below.setCell ?_ (by first | omega | (simp; omega) | (simp; done)) _) | (with_reducible refine Below.alloc ?_ (by first | omega | (simp; omega) | (simp; done)) _) | (with_reducible refine Below.drew ?_) | (with_reducible refine below_drewN ?_ _)))) (q.mono (by simp <;> omega))
  have hz0 : w.heap.size + 1 + 1 ≤ W1.heap.size := by have := q.size; simp at this; omega
  clear q
  have c0 := (Lc 0 _ rfl).1
  have c1 := (Lc 1 _ rfl).1
  have c2 := (Lc 2 _ rfl).1
  go_wp2_with fail
  refine (HW.out _ _ _ _ (h.below hb) hvl).mono ?_
  rintro e W2 ⟨x1, x2, S, rfl, ow, f1, q⟩
  clear c0 c1 c2
  obtain ⟨⟨B1, k1, rfl⟩, ⟨B2, k2, rfl⟩⟩ := ow.rd.forms
  clear hvl
  have hzq : W1.heap.size ≤ W2.heap.size := by have := q.size; (try simp at this); omega
  replace Lc := Lc.below q
  replace Lr := Lr.below q
  replace hb : Below w.heap.size w W2 := hb.trans (q.mono hb.size)
  have hlow : W1.heap.size ≤ W1.heap.size := by first | exact Nat.le_refl _ | (simp; done) | (simp; omega) | omega
  have FK := Lib.hid (fresh_mono f1 hlow (Nat.le_refl _))
  have DK : Hid (∀ x ∈ S, x ∉ [w.heap.size, w.heap.size + 1]) := (fun x hx => by have := (FK.out.2 x hx).1; simp; omega)
  have OK := Lib.hid ow
  clear ow f1 hlow
  clear q
  have r0 := (Lr 0 _ rfl).1
  have rf0 := (Lr 0 _ rfl).2
  have r1 := (Lr 1 _ rfl).1
  have rf1 := (Lr 1 _ rfl).2
  have r2 := (Lr 2 _ rfl).1
  have rf2 := (Lr 2 _ rfl).2
  go_wp2_with fail
  refine bodyPost_ret (v := .tuple #[.agg #[.int .i64 n, .slice B1 cs'.length k1, .slice B2 pl.length k2], .bool ok]) (by simp [results, Try.results44, go_sem, *]) rfl (⟨_, _, S, rfl, ?_, ?_, ?_⟩)
  · exact OK.out.chg (T := [w.heap.size + 1]) (by repeat' (first | (with_reducible exact Chg.refl _ _) | (with_reducible refine chg_set ?_ (by simp)))) (fun x hx hx' => DK.out x hx (by simp at hx'; subst hx'; simp))
  · exact fresh_mono FK.out (by omega) (by simp)
  · exact Below.chg hb (S := [w.heap.size + 1]) (by repeat' (first | (with_reducible exact Chg.refl _ _) | (with_reducible refine chg_set ?_ (by simp)))) hb.size (fun x hx => by simp at hx; omega)
set_option maxHeartbeats 8000000 in
set_option maxRecDepth 100000 in
theorem specGoHome_any (n : Int) (v1 v2 : Value) (cs : List RCross) (pl : List RPl) (w : World) (h : RdCompany w v1 v2 cs pl) (hsz : szCompany cs pl ≤ 1048576) :
    Calls Try.prog 90 #[.agg #[.int .i64 n, v1, v2]] w (RetCompany n (goB n cs pl) (goC n cs pl) pl w) := by
  obtain ⟨⟨A1, n1, rfl⟩, ⟨A2, n2, rfl⟩⟩ := h.forms
  unfold goB goC
  have hll := homeL_len n cs
  have HC : Hid (∀ (W : World) (v : Value), RdL cCross 2 W v cs → Calls Try.prog 132 #[.int .i64 n, v] W fun e w' => ∃ v', e = .returned (.tuple #[v', .bool (crossesB n cs)]) ∧ w'.ownsRow W.heap.size 115 2 v' (homeL n cs).length ((homeL n cs).flatMap cCross) ∧ Below W.heap.size W w') := fun W v hr => specBringHome_any n v cs W hr
  have HW : Hid (∀ (W : World) (vl v1 v2 : Value), RdCompany W v1 v2 cs pl → RdL cCross 2 W vl (homeL n cs) → Calls Try.prog 71 #[.agg #[.int .i64 n, v1, v2], vl] W (RetCompany n (withB n cs pl (homeL n cs)) (withC n cs pl (homeL n cs)) pl W)) := fun W vl v1 v2 h1 h2 => l37Add_any n v1 v2 vl cs pl (homeL n cs) W h1 h2 (by omega) hsz
  generalize homeL n cs = hl at *
  generalize withB n cs pl hl = ok at *
  generalize withC n cs pl hl = cs' at *
  go_enter Try.func90, Try.ntmps90
  go_wp2_with fail
  refine (HC.out _ _ (h.below (by (repeat' (first | (with_reducible exact Below.refl _ _) | (with_reducible assumption) | (with_reducible refine Below.setCell ?_ (by first | omega | (simp; omega) | (simp; done)) _) | (with_reducible refine Below.alloc ?_ (by first | omega | (simp; omega) | (simp; done)) _) | (with_reducible refine Below.drew ?_) | (with_reducible refine below_drewN ?_ _))))).1).mono ?_
  rintro e W1 ⟨vl, rfl, ownl, q⟩
  have hvl : RdL cCross 2 W1 vl hl := RdS.of_own ownl
  clear ownl
  generalize crossesB n cs = okh at *
  obtain ⟨Al, cl, rfl, _, _⟩ := hvl.form
  have Lc : Loc W1 (w.heap.size) [.int .i64 n, .slice A1 cs.length n1, .slice A2 pl.length n2] := by have := ((Loc.new w #[.int .i64 n, .slice A1 cs.length n1, .slice A2 pl.length n2] 47).alloc _).below q; simpa using this
  have Lr : Loc W1 (w.heap.size + 1) [.int .i64 0, .slice none 0 0, .slice none 0 0] := by have := (Loc.new (w.alloc (.cells #[.int .i64 n, .slice A1 cs.length n1, .slice A2 pl.length n2] 47)) #[.int .i64 0, .slice none 0 0, .slice none 0 0] 47).below q; simpa using this
  have hb : Below w.heap.size w W1 := Below.trans (by (repeat' (first | (with_reducible exact Below.refl _ _) | (with_reducible assumption) | (with_reducible refine Below.setCell ?_ (by first | omega | (simp; omega) | (simp; done)) _) | (with_reducible refine Below.alloc ?_ (by first | omega | (simp; omega) | (simp; done)) _) | (with_reducible refine Below.drew ?_) | (with_reducible refine below_drewN ?_ _)))) (q.mono (by simp <;> omega))
  have hz0 : w.heap.size + 1 + 1 ≤ W1.heap.size := by have := q.size; simp at this; omega
  clear q
  have c0 := (Lc 0 _ rfl).1
  have c1 := (Lc 1 _ rfl).1
  have c2 := (Lc 2 _ rfl).1
  go_wp2_with fail
  refine (HW.out _ _ _ _ (h.below hb) hvl).mono ?_
  rintro e W2 ⟨x1, x2, S, rfl, ow, f1, q⟩
  clear c0 c1 c2
  obtain ⟨⟨B1, k1, rfl⟩, ⟨B2, k2, rfl⟩⟩ := ow.rd.forms
  clear hvl
  have hzq : W1.heap.size ≤ W2.heap.size := by have := q.size; (try simp at this); omega
  replace Lc := Lc.below q
  replace Lr := Lr.below q
  replace hb : Below w.heap.size w W2 := hb.trans (q.mono hb.size)
  have hlow : W1.heap.size ≤ W1.heap.size := by first | exact Nat.le_refl _ | (simp; done) | (simp; omega) | omega
  have FK := Lib.hid (fresh_mono f1 hlow (Nat.le_refl _))
  have DK : Hid (∀ x ∈ S, x ∉ [w.heap.size, w.heap.size + 1]) := (fun x hx => by have := (FK.out.2 x hx).1; simp; omega)
  have OK := Lib.hid ow
  clear ow f1 hlow
  clear q
  go_upto_region 3 with (fail)
  replace Lc : Loc (W2.alloc (.cells #[.int .i64 n, .slice B1 cs'.length k1, .slice B2 pl.length k2] 47)) (w.heap.size) [.int .i64 n, .slice A1 cs.length n1, .slice A2 pl.length n2] := Lc.alloc _
  replace Lr : Loc (W2.alloc (.cells #[.int .i64 n, .slice B1 cs'.length k1, .slice B2 pl.length k2] 47)) (w.heap.size + 1) [.int .i64 0, .slice none 0 0, .slice none 0 0] := Lr.alloc _
  obtain ⟨go, hgo⟩ : ∃ g, W2.heap.size = g := ⟨_, rfl⟩
  have Lo : Loc (W2.alloc (.cells #[.int .i64 n, .slice B1 cs'.length k1, .slice B2 pl.length k2] 47)) W2.heap.size [.int .i64 n, .slice B1 cs'.length k1, .slice B2 pl.length k2] := Loc.new W2 #[.int .i64 n, .slice B1 cs'.length k1, .slice B2 pl.length k2] 47
  rw [hgo] at Lo
  have OK' := Lib.hid (OK.out.below (w' := (W2.alloc (.cells #[.int .i64 n, .slice B1 cs'.length k1, .slice B2 pl.length k2] 47))) ((Below.refl _ _).alloc (Nat.le_refl _) _))
  clear OK; have OK := OK'; clear OK'
  have DK' : Hid (∀ x ∈ S, x ∉ [w.heap.size, w.heap.size + 1, go]) := (fun x hx => by have := DK.out x hx; have := (FK.out.2 x hx).2; simp at *; omega)
  clear DK; have DK := DK'; clear DK'
  have FK' := Lib.hid (fresh_mono (w' := (W2.alloc (.cells #[.int .i64 n, .slice B1 cs'.length k1, .slice B2 pl.length k2] 47))) FK.out (Nat.le_refl _) (by simp))
  clear FK; have FK := FK'; clear FK'
  replace hb : Below w.heap.size w (W2.alloc (.cells #[.int .i64 n, .slice B1 cs'.length k1, .slice B2 pl.length k2] 47)) := hb.alloc hb.size _
  have hlto : go < (W2.alloc (.cells #[.int .i64 n, .slice B1 cs'.length k1, .slice B2 pl.length k2] 47)).heap.size := by simp; omega
  have hne_c_o : w.heap.size < go := by omega
  have hne_r_o : w.heap.size + 1 < go := by omega
  generalize W2.alloc (.cells #[.int .i64 n, .slice B1 cs'.length k1, .slice B2 pl.length k2] 47) = W3 at *
  rw [hgo]
  clear hgo
  have o0 := (Lo 0 _ rfl).1
  have o1 := (Lo 1 _ rfl).1
  have o2 := (Lo 2 _ rfl).1
  have r0 := (Lr 0 _ rfl).1
  have rf0 := (Lr 0 _ rfl).2
  have r1 := (Lr 1 _ rfl).1
  have rf1 := (Lr 1 _ rfl).2
  have r2 := (Lr 2 _ rfl).1
  have rf2 := (Lr 2 _ rfl).2
  go_wp2_with fail
  refine bodyPost_ret (v := .tuple #[.agg #[.int .i64 n, .slice B1 cs'.length k1, .slice B2 pl.length k2], .bool ok]) (by simp [results, Try.results90, go_sem, *]) rfl (⟨_, _, S, rfl, ?_, ?_, ?_⟩)
  · exact OK.out.chg (T := [w.heap.size + 1]) (by repeat' (first | (with_reducible exact Chg.refl _ _) | (with_reducible refine chg_set ?_ (by simp)))) (fun x hx hx' => DK.out x hx (by simp at hx'; subst hx'; simp))
  · exact fresh_mono FK.out (by omega) (by simp)
  · exact Below.chg hb (S := [w.heap.size + 1]) (by repeat' (first | (with_reducible exact Chg.refl _ _) | (with_reducible refine chg_set ?_ (by simp)))) hb.size (fun x hx => by simp at hx; omega)
end Go.Proofs.Ytjbhlbcjljdjmaa

namespace Go.Proofs.Ytjbhlbcjljdjmaa
open Go.RowKit
theorem act82sa {a : Act} (h : a.tmps.size = 82) (hd : a.defers = []) : ∃ x0 x1 x2 x3 x4 x5 x6 x7 x8 x9 x10 x11 x12 x13 x14 x15 x16 x17 x18 x19 x20 x21 x22 x23 x24 x25 x26 x27 x28 x29 x30 x31 x32 x33 x34 x35 x36 x37 x38 x39 x40 x41 x42 x43 x44 x45 x46 x47 x48 x49 x50 x51 x52 x53 x54 x55 x56 x57 x58 x59 x60 x61 x62 x63 x64 x65 x66 x67 x68 x69 x70 x71 x72 x73 x74 x75 x76 x77 x78 x79 x80 x81 : Value, a = ⟨#[x0, x1, x2, x3, x4, x5, x6, x7, x8, x9, x10, x11, x12, x13, x14, x15, x16, x17, x18, x19, x20, x21, x22, x23, x24, x25, x26, x27, x28, x29, x30, x31, x32, x33, x34, x35, x36, x37, x38, x39, x40, x41, x42, x43, x44, x45, x46, x47, x48, x49, x50, x51, x52, x53, x54, x55, x56, x57, x58, x59, x60, x61, x62, x63, x64, x65, x66, x67, x68, x69, x70, x71, x72, x73, x74, x75, x76, x77, x78, x79, x80, x81], []⟩ := by
  obtain ⟨⟨l⟩, d⟩ := a
  subst hd
  match l, h with
  | x0 :: x1 :: x2 :: x3 :: x4 :: x5 :: x6 :: x7 :: x8 :: x9 :: x10 :: x11 :: x12 :: x13 :: x14 :: x15 :: x16 :: x17 :: x18 :: x19 :: x20 :: x21 :: x22 :: x23 :: x24 :: x25 :: x26 :: x27 :: x28 :: x29 :: x30 :: x31 :: x32 :: x33 :: x34 :: x35 :: x36 :: x37 :: x38 :: x39 :: x40 :: x41 :: x42 :: x43 :: x44 :: x45 :: x46 :: x47 :: x48 :: x49 :: x50 :: x51 :: x52 :: x53 :: x54 :: x55 :: x56 :: x57 :: x58 :: x59 :: x60 :: x61 :: x62 :: x63 :: x64 :: x65 :: x66 :: x67 :: x68 :: x69 :: x70 :: x71 :: x72 :: x73 :: x74 :: x75 :: x76 :: x77 :: x78 :: x79 :: x80 :: x81 :: [], _ => exact ⟨x0, x1, x2, x3, x4, x5, x6, x7, x8, x9, x10, x11, x12, x13, x14, x15, x16, x17, x18, x19, x20, x21, x22, x23, x24, x25, x26, x27, x28, x29, x30, x31, x32, x33, x34, x35, x36, x37, x38, x39, x40, x41, x42, x43, x44, x45, x46, x47, x48, x49, x50, x51, x52, x53, x54, x55, x56, x57, x58, x59, x60, x61, x62, x63, x64, x65, x66, x67, x68, x69, x70, x71, x72, x73, x74, x75, x76, x77, x78, x79, x80, x81, rfl⟩
def psa (B m pl cp go k p q : Nat) (g cg n : Nat) (t : Int) (f : Bool) (xs : List Value) (i : Nat) (v : Value) (_ : Nat → Nat) (w : World) : Prop :=
  match i with
  | 0 => v = .int .i64 m
  | 1 => v = .slice (some ⟨go, 0, none⟩) pl cp
  | 2 => v = .int .i64 k
  | 3 => v = .pointer (some ⟨go, k, none⟩)
  | 4 => v = .slice (some ⟨g, 0, none⟩) 2 cg
  | 5 => v = .pointer (some ⟨g, 0, none⟩)
  | 6 => v = .int .i64 p
  | 7 => v = .slice (some ⟨go, 0, none⟩) pl cp
  | 8 => v = .int .i64 k
  | 9 => v = .pointer (some ⟨go, k, none⟩)
  | 10 => v = .slice (some ⟨g, 0, none⟩) 2 cg
  | 11 => v = .pointer (some ⟨g, 1, none⟩)
  | 12 => v = .int .i64 q
  | 13 => v = .int .i64 t
  | 14 => v = .bool f
  | 15 => ∃ A c, v = .tuple #[.slice A n c, .bool true] ∧ w.ownsRow B 115 2 (.slice A n c) n xs
  | 16 => ∃ A c, v = .tuple #[.slice A n c, .bool true] ∧ w.ownsRow B 115 2 (.slice A n c) n xs
  | 17 => ∃ A c, v = .slice A n c ∧ w.ownsRow B 115 2 (.slice A n c) n xs
  | 18 => v = .bool true
  | 19 => ∃ A c, v = .slice A n c ∧ w.ownsRow B 115 2 (.slice A n c) n xs
  | _ => True
set_option maxHeartbeats 8000000 in
set_option maxRecDepth 100000 in
theorem specUnwindAll_any (n : Int) (v : Value) (cs : List RCross) (w : World) (h : RdL cCross 2 w v cs) :
    Calls Try.prog 69 #[.int .i64 n, v] w (RetUnw (unwB n cs) (unwV n cs) w) := by
  have h0 := h
  obtain ⟨A, c, rfl, h1, h2⟩ := h.form
  obtain ⟨iX, hiX, hzX0, hzX1, hzX2⟩ := info_parts infoCross
  have hownA := World.ownsRow_made (size := 2) (e := 115) w #[] 0 (Nat.le_refl _) (by simp [maxLen]) rfl
  have hbA : Below w.heap.size w (w.alloc (.cells #[] 115)) := (Below.refl _ _).alloc (Nat.le_refl _) _
  have hrdA := h0.below hbA
  go_enter Try.func69, Try.ntmps69
  go_wp2_with fail
  refine twoB (specCrossesOk_any n _ cs _ hrdA) (fun w1 hq hb1 => ?_) (fun w1 hq hb1 => ?_)
  · obtain ⟨hn, hlen, hcs⟩ := crosses_len hq.out
    obtain ⟨m, rfl⟩ := Int.eq_ofNat_of_zero_le (show 0 ≤ n by omega)
    have hm : 1 ≤ m ∧ m ≤ 7 := by omega
    have hrd1 := hrdA.below hb1
    have HSQ := Lib.hid (twL_sq hcs)
    have HBD := Lib.hid (twL_40 hcs (by omega))
    have HO := Lib.hid (IsOrd.order hcs)
    have hown1 := own_below hownA hb1
    have hb01 : Below w.heap.size w w1 := bl_trans hbA hb1
    have hC := specOrderAfter_any (m : Int) _ cs w1 hrd1
    rw [ordR_t hq.out] at hC
    clear hcs hn hrdA hownA hbA hb1
    go_wp2_with fail
    refine hC.mono ?_
    rintro e w2 ⟨v2, rfl, own2, hb2⟩
    have hr2 : RdL cInt 1 w2 v2 (orderF m cs) := RdS.of_own own2
    obtain ⟨A2, c2, rfl, _, _⟩ := hr2.form
    have hown2 := own_below hown1 hb2
    have hrd2 := hrd1.below hb2
    have hb02 : Below w.heap.size w w2 := bl_trans hb01 hb2
    have hCI := specCountInv_any _ _ w2 hr2 (HO.out.okB hm)
    have HI : Hid (inv (orderF m cs) = 0 ↔ orderF m cs = upN m) := HO.out.inv_zero
    obtain ⟨ol, hol⟩ : ∃ ol, (orderF m cs).length = ol := ⟨_, rfl⟩
    rw [hol] at hCI hr2
    rw [hol]
    obtain ⟨I, hI⟩ : ∃ I, inv (orderF m cs) = I := ⟨_, rfl⟩
    rw [hI] at hCI HI
    clear own2 hb2 hC hown1 hrd1 hb01 hol hI
    go_wp2_with fail
    refine hCI.mono ?_
    rintro e w3 ⟨rfl, hb3⟩
    have hown3 := own_below hown2 hb3
    have hrd3 := hrd2.below hb3
    have hb03 : Below w.heap.size w w3 := bl_trans hb02 hb3
    clear hCI hr2 hown2 hrd2 hb02 hb3
    by_cases hI0 : I = 0
    · have HU := Lib.hid (unwB_t hq.out (HI.out.1 hI0))
      subst hI0
      clear HI
      go_wp2_with fail
      refine (specWound_any m _ cs _ hrd3 hq.out).mono ?_
      rintro e w4 ⟨vp, rfl, ⟨Sp, hp, hfp, _⟩, hb4⟩
      have hz4 := hb4.size
      obtain ⟨Ap, cp, rfl, _, _⟩ := hp.rd.form
      have hown4 := own_below hown3 hb4
      have hb04 : Below w.heap.size w w4 := bl_trans hb03 hb4
      have hap4 : Hid (∀ b ∈ Sp, b ∉ (Value.slice (some ⟨w.heap.size, 0, none⟩) 0 0).ownBlock.toList) := fun b hb hb' => by
        have := (hfp.2 b hb).1
        have h2 := (own_lt hown3 w.heap.size (by simp [Value.ownBlock])).2
        simp [Value.ownBlock] at hb'
        omega
      have hSp : ∀ b ∈ Sp, b < w4.heap.size := fun b hb => (hfp.2 b hb).2
      have hSn := hfp.1
      have HPm : Hid (∀ k (hk : k < (woundL m cs).length), ∃ i j : Nat, (woundL m cs)[k] = [(i : Int), (j : Int)] ∧ i < j ∧ j < m) := fun k hk => woundPair hk
      have HPl : Hid (∀ k, (unwTo (twL m cs) ((woundL m cs).take k)).length ≤ 49 * 400) := fun k => by
        have e1 := unwTo_len (ll := twL m cs) (ps := (woundL m cs).take k) hm.2 (fun r hr => wound_mem r (List.mem_of_mem_take hr)) HBD.out
        have h2 := woundTo_len (twL m cs) m m
        have h3 : m * m ≤ 7 * 7 := Nat.mul_le_mul (by omega) (by omega)
        have h4 : ((woundL m cs).take k).length ≤ 49 := by rw [List.length_take]; unfold woundL; omega
        have h5 := Nat.mul_le_mul_right 400 h4
        omega
      have HUL : Hid (unwindL m cs = unwTo (twL m cs) (woundL m cs)) := rfl
      have hlp : (woundL m cs).length ≤ 49 := by
        have h2 := woundTo_len (twL m cs) m m
        have h3 : m * m ≤ 7 * 7 := Nat.mul_le_mul (by omega) (by omega)
        unfold woundL; omega
      have HTO : Hid (∀ (i j : Nat) (W : World) (v : Value), RdL cCross 2 W v cs → i < m → j < m → Calls Try.prog 119 #[.int .i64 m, v, .int .i64 i, .int .i64 j] W fun e w' => e = .returned (.int .i64 (cellT (twL m cs) i j)) ∧ Below W.heap.size W w') := fun i j W v hr hi hj => specTwistOf_any m i j v cs W hr hq.out hi hj
      clear hown3 hfp hb4 hrd3 hb03
      generalize woundL m cs = ps at *
      generalize twL m cs = tw at *
      go_wp2_with fail
      go_loopw [6, 8, 9, 10, 11, 12] (fun p i _ _ _ _ wr => ∃ k : Nat, k ≤ ps.length ∧ i = .int .i64 k ∧ wr.ownsRow w.heap.size 115 2 p (unwTo tw (ps.take k)).length ((unwTo tw (ps.take k)).flatMap cCross) ∧ OwRows 28 3 wr Sp (.slice Ap ps.length cp) ps ∧ Hid (∀ b ∈ Sp, b ∉ p.ownBlock.toList) ∧ w4.heap.size ≤ wr.heap.size ∧ Below w.heap.size w wr) (fun _ i _ _ _ _ _ => ps.length - (intOf i).toNat)
      case atStart => exact ⟨0, Nat.zero_le _, rfl, hown4, hp, hap4, Nat.le_refl _, hb04⟩
      case round =>
        obtain ⟨k, hk, rfl, hown, hp, hap, hzw, hb⟩ := hrel
        clear hown4 hap4 hb04
        have hz := hb.size
        obtain ⟨Ao, co, rfl, _, _⟩ := (RdS.of_own hown).form
        by_cases hlt : k < ps.length
        · obtain ⟨i, j, hpk, hij, hjm⟩ := HPm.out k hlt
          have HSN := Lib.hid (unwTo_snoc tw ps hlt)
          have HPK := Lib.hid hpk
          obtain ⟨go, cop, g, cg, e, c1, c2, c3, hgS⟩ := hp.pairAt hSn hlt hpk
          injection e with e1 e2 e3
          subst e1 e3
          clear e2 hpk
          have HTT : Hid (unwR tw ps[k] = manyL (turnL i j (decide (cellT tw i j < 0))) (timesT (cellT tw i j))) := by show _ = _; rw [HPK.out, unwR_pair]
          rw [HTT.out] at HSN
          clear HTT
          have htb := HBD.out i j
          have hTO := HTO.out i j wr.drew _ (h0.below hb.drew) (by omega) hjm
          obtain ⟨t, ht⟩ : ∃ t, cellT tw i j = t := ⟨_, rfl⟩
          rw [ht] at hTO htb HSN
          have hl0 := HPl.out k
          obtain ⟨dn1, hd1⟩ : ∃ dn1, unwTo tw (ps.take (k + 1)) = dn1 := ⟨_, rfl⟩
          rw [hd1] at HSN
          have HD1 := Lib.hid hd1
          clear ht hd1
          generalize unwTo tw (ps.take k) = d0 at *
          go_upto_region 8 with (fail)
          go_still_tail 14, (by kernel_rfl)
          change wpList _ _ _ _ _ (World.drew wr)
          go_wp2_with fail
          refine hTO.mono ?_
          rintro e wq ⟨rfl, hb5⟩
          have hb5' : Below wr.heap.size wr wq := bl_trans ((Below.refl _ _).drew) hb5
          have hown5 := own_below hown hb5'
          have hp5 := hp.below hb5'
          have hb05 : Below w.heap.size w wq := bl_trans hb hb5'
          have hz5 := hb5'.size
          have c1' := carry hb5' c1
          have c2' := carry hb5' c2
          have c3' := carry hb5' c3
          clear c1 c2 c3 hown hp hb hb5 hb5' hTO
          go_upto_region 9 with (fail)
          have hTL : (turnL i j (decide (t < 0))).length ≤ 16 := by have := turnL_len i j (decide (t < 0)); omega
          have HTu : Hid (∀ w, Calls Try.prog 120 #[.int .i64 m, .int .i64 i, .int .i64 j, .bool (decide (t < 0))] w fun e w' => ∃ v', e = .returned (.tuple #[v', .bool true]) ∧ w'.ownsRow w.heap.size 115 2 v' (turnL i j (decide (t < 0))).length ((turnL i j (decide (t < 0))).flatMap cCross) ∧ Below w.heap.size w w') := fun w => specTurn_any m i j (decide (t < 0)) w hij hjm hm.2
          have HML : Hid (∀ a, a ≤ 20 → (manyL (turnL i j (decide (t < 0))) a).length ≤ 400) := fun a ha => many_len hjm hm.2 ha
          generalize turnL i j (decide (t < 0)) = TL at *
          refine region_made (n := 82) 20 (by kernel_rfl) rfl (by kernel_rfl) (fun w' => Below wq.heap.size wq w') (fun _ => 0) (psa wq.heap.size m ps.length cp go k i j g cg TL.length t (decide (t < 0)) (TL.flatMap cCross)) (Below.refl _ _).drew ?_ ?_ ?_
          · intro i v gh gh' w1 w2 hp hJ hb' hg
            match i, hp with
            | 0, hp => exact hp
            | 1, hp => exact hp
            | 2, hp => exact hp
            | 3, hp => exact hp
            | 4, hp => exact hp
            | 5, hp => exact hp
            | 6, hp => exact hp
            | 7, hp => exact hp
            | 8, hp => exact hp
            | 9, hp => exact hp
            | 10, hp => exact hp
            | 11, hp => exact hp
            | 12, hp => exact hp
            | 13, hp => exact hp
            | 14, hp => exact hp
            | 15, ⟨A', c', hv, ho⟩ => exact ⟨A', c', hv, own_below ho hb'⟩
            | 16, ⟨A', c', hv, ho⟩ => exact ⟨A', c', hv, own_below ho hb'⟩
            | 17, ⟨A', c', hv, ho⟩ => exact ⟨A', c', hv, own_below ho hb'⟩
            | 18, hp => exact hp
            | 19, ⟨A', c', hv, ho⟩ => exact ⟨A', c', hv, own_below ho hb'⟩
            | _ + 20, _ => trivial
          · refine ⟨?_, ?_, ?_, ?_, ?_, ?_, ?_, ?_, ?_, ?_, ?_, ?_, ?_, ?_, ?_, ?_, ?_, ?_, ?_, ?_, trivial⟩
            all_goals
              intro a gh w5 hag hJ hd
              have ag0 : a.tmps.getD 0 undef = .int .i64 m := hag.kept 0 (by kernel_rfl)
              have ag7 : a.tmps.getD 7 undef = .slice (some ⟨go, 0, none⟩) ps.length cp := hag.kept 7 (by kernel_rfl)
              have ag8 : a.tmps.getD 8 undef = .int .i64 k := hag.kept 8 (by kernel_rfl)
              have ag9 : a.tmps.getD 9 undef = .int .i64 t := hag.kept 9 (by kernel_rfl)
              clear hag
            · go_wp2_with fail
              exact ⟨rfl, _, rfl, rfl, hJ, Below.refl _ _⟩
            · go_wp2_with fail
              exact ⟨rfl, _, rfl, rfl, hJ, Below.refl _ _⟩
            · go_wp2_with fail
              exact ⟨rfl, _, rfl, rfl, hJ, Below.refl _ _⟩
            · have e0 : a.tmps.getD 52 undef = .slice (some ⟨go, 0, none⟩) ps.length cp := hd 1 (by kernel_rfl) _ rfl
              have e1 : a.tmps.getD 53 undef = .int .i64 k := hd 2 (by kernel_rfl) _ rfl
              go_wp2_with fail
              exact ⟨rfl, _, rfl, rfl, hJ, Below.refl _ _⟩
            · have e0 : a.tmps.getD 54 undef = .pointer (some ⟨go, k, none⟩) := hd 3 (by kernel_rfl) _ rfl
              have k0 := carry hJ c1'
              go_wp2_with fail
              exact ⟨rfl, _, rfl, rfl, hJ, Below.refl _ _⟩
            · have e0 : a.tmps.getD 55 undef = .slice (some ⟨g, 0, none⟩) 2 cg := hd 4 (by kernel_rfl) _ rfl
              go_wp2_with fail
              exact ⟨rfl, _, rfl, rfl, hJ, Below.refl _ _⟩
            · have e0 : a.tmps.getD 56 undef = .pointer (some ⟨g, 0, none⟩) := hd 5 (by kernel_rfl) _ rfl
              have k0 := carry hJ c2'
              go_wp2_with fail
              exact ⟨rfl, _, rfl, rfl, hJ, Below.refl _ _⟩
            · go_wp2_with fail
              exact ⟨rfl, _, rfl, rfl, hJ, Below.refl _ _⟩
            · go_wp2_with fail
              exact ⟨rfl, _, rfl, rfl, hJ, Below.refl _ _⟩
            · have e0 : a.tmps.getD 58 undef = .slice (some ⟨go, 0, none⟩) ps.length cp := hd 7 (by kernel_rfl) _ rfl
              have e1 : a.tmps.getD 59 undef = .int .i64 k := hd 8 (by kernel_rfl) _ rfl
              go_wp2_with fail
              exact ⟨rfl, _, rfl, rfl, hJ, Below.refl _ _⟩
            · have e0 : a.tmps.getD 60 undef = .pointer (some ⟨go, k, none⟩) := hd 9 (by kernel_rfl) _ rfl
              have k0 := carry hJ c1'
              go_wp2_with fail
              exact ⟨rfl, _, rfl, rfl, hJ, Below.refl _ _⟩
            · have e0 : a.tmps.getD 61 undef = .slice (some ⟨g, 0, none⟩) 2 cg := hd 10 (by kernel_rfl) _ rfl
              go_wp2_with fail
              exact ⟨rfl, _, rfl, rfl, hJ, Below.refl _ _⟩
            · have e0 : a.tmps.getD 62 undef = .pointer (some ⟨g, 1, none⟩) := hd 11 (by kernel_rfl) _ rfl
              have k0 := carry hJ c3'
              go_wp2_with fail
              exact ⟨rfl, _, rfl, rfl, hJ, Below.refl _ _⟩
            · go_wp2_with fail
              exact ⟨rfl, _, rfl, rfl, hJ, Below.refl _ _⟩
            · have e0 : a.tmps.getD 64 undef = .int .i64 t := hd 13 (by kernel_rfl) _ rfl
              go_wp2_with fail
              exact ⟨rfl, _, rfl, rfl, hJ, Below.refl _ _⟩
            · have e0 : a.tmps.getD 51 undef = .int .i64 m := hd 0 (by kernel_rfl) _ rfl
              have e1 : a.tmps.getD 57 undef = .int .i64 i := hd 6 (by kernel_rfl) _ rfl
              have e2 : a.tmps.getD 63 undef = .int .i64 j := hd 12 (by kernel_rfl) _ rfl
              have e3 : a.tmps.getD 65 undef = .bool (decide (t < 0)) := hd 14 (by kernel_rfl) _ rfl
              go_wp2_with fail
              refine (HTu.out _).mono ?_
              rintro e w6 ⟨v5, rfl, own5, hb5⟩
              obtain ⟨A5, c5, rfl, _, _⟩ := (RdS.of_own own5).form
              go_wp2_with fail
              exact ⟨rfl, _, rfl, ⟨A5, c5, rfl, own_mono own5 hJ.size⟩, bl_trans hJ hb5, hb5⟩
            · obtain ⟨A', c', e0, ho⟩ : ∃ A c, a.tmps.getD 66 undef = .tuple #[.slice A TL.length c, .bool true] ∧ w5.ownsRow wq.heap.size 115 2 (.slice A TL.length c) TL.length (TL.flatMap cCross) := hd 15 (by kernel_rfl) _ rfl
              go_wp2_with fail
              exact ⟨rfl, _, rfl, ⟨A', c', rfl, ho⟩, hJ, Below.refl _ _⟩
            · obtain ⟨A', c', e0, ho⟩ : ∃ A c, a.tmps.getD 50 undef = .tuple #[.slice A TL.length c, .bool true] ∧ w5.ownsRow wq.heap.size 115 2 (.slice A TL.length c) TL.length (TL.flatMap cCross) := hd 16 (by kernel_rfl) _ rfl
              go_wp2_with fail
              exact ⟨rfl, _, rfl, ⟨A', c', rfl, ho⟩, hJ, Below.refl _ _⟩
            · obtain ⟨A', c', e0, ho⟩ : ∃ A c, a.tmps.getD 50 undef = .tuple #[.slice A TL.length c, .bool true] ∧ w5.ownsRow wq.heap.size 115 2 (.slice A TL.length c) TL.length (TL.flatMap cCross) := hd 16 (by kernel_rfl) _ rfl
              go_wp2_with fail
              exact ⟨rfl, _, rfl, rfl, hJ, Below.refl _ _⟩
            · obtain ⟨A', c', e0, ho⟩ : ∃ A c, a.tmps.getD 67 undef = .slice A TL.length c ∧ w5.ownsRow wq.heap.size 115 2 (.slice A TL.length c) TL.length (TL.flatMap cCross) := hd 17 (by kernel_rfl) _ rfl
              go_wp2_with fail
              exact ⟨rfl, _, rfl, ⟨A', c', rfl, ho⟩, hJ, Below.refl _ _⟩
          · intro a gh w5 hag hJ hd
            obtain ⟨x0, x1, x2, x3, x4, x5, x6, x7, x8, x9, x10, x11, x12, x13, x14, x15, x16, x17, x18, x19, x20, x21, x22, x23, x24, x25, x26, x27, x28, x29, x30, x31, x32, x33, x34, x35, x36, x37, x38, x39, x40, x41, x42, x43, x44, x45, x46, x47, x48, x49, x50, x51, x52, x53, x54, x55, x56, x57, x58, x59, x60, x61, x62, x63, x64, x65, x66, x67, x68, x69, x70, x71, x72, x73, x74, x75, x76, x77, x78, x79, x80, x81, rfl⟩ := act82sa hag.size hag.defers
            have ag0 : x0 = .int .i64 m := hag.kept 0 (by kernel_rfl)
            have ag1 : x1 = .slice A cs.length c := hag.kept 1 (by kernel_rfl)
            have ag2 : x2 = undef := hag.kept 2 (by kernel_rfl)
            have ag3 : x3 = undef := hag.kept 3 (by kernel_rfl)
            have ag4 : x4 = .slice none 0 0 := hag.kept 4 (by kernel_rfl)
            have ag5 : x5 = .bool false := hag.kept 5 (by kernel_rfl)
            have ag6 : x6 = .slice Ao d0.length co := hag.kept 6 (by kernel_rfl)
            have ag7 : x7 = .slice (some ⟨go, 0, none⟩) ps.length cp := hag.kept 7 (by kernel_rfl)
            have ag8 : x8 = .int .i64 k := hag.kept 8 (by kernel_rfl)
            have ag9 : x9 = .int .i64 t := hag.kept 9 (by kernel_rfl)
            have ag13 : x13 = .slice (some ⟨w.heap.size, 0, none⟩) 0 0 := hag.kept 13 (by kernel_rfl)
            have ag14 : x14 = .int .i64 m := hag.kept 14 (by kernel_rfl)
            have ag15 : x15 = .slice A cs.length c := hag.kept 15 (by kernel_rfl)
            have ag16 : x16 = .bool true := hag.kept 16 (by kernel_rfl)
            have ag17 : x17 = .bool false := hag.kept 17 (by kernel_rfl)
            have ag18 : x18 = .bool false := hag.kept 18 (by kernel_rfl)
            have ag19 : x19 = .int .i64 m := hag.kept 19 (by kernel_rfl)
            have ag20 : x20 = .slice A cs.length c := hag.kept 20 (by kernel_rfl)
            have ag21 : x21 = .slice A2 ol c2 := hag.kept 21 (by kernel_rfl)
            have ag22 : x22 = .int .i64 0 := hag.kept 22 (by kernel_rfl)
            have ag23 : x23 = .bool false := hag.kept 23 (by kernel_rfl)
            have ag24 : x24 = .bool false := hag.kept 24 (by kernel_rfl)
            have ag25 : x25 = undef := hag.kept 25 (by kernel_rfl)
            have ag26 : x26 = .int .i64 m := hag.kept 26 (by kernel_rfl)
            have ag27 : x27 = .slice A cs.length c := hag.kept 27 (by kernel_rfl)
            have ag28 : x28 = .slice (some ⟨go, 0, none⟩) ps.length cp := hag.kept 28 (by kernel_rfl)
            have ag81 : x81 = undef := hag.kept 81 (by kernel_rfl)
            clear hag
            subst ag0 ag1 ag2 ag3 ag4 ag5 ag6 ag7 ag8 ag9 ag13 ag14 ag15 ag16 ag17 ag18 ag19 ag20 ag21 ag22 ag23 ag24 ag25 ag26 ag27 ag28 ag81
            obtain ⟨A5, c5, e0, own5⟩ : ∃ A c, x10 = .slice A TL.length c ∧ w5.ownsRow wq.heap.size 115 2 (.slice A TL.length c) TL.length (TL.flatMap cCross) := hd 19 (by kernel_rfl) _ rfl
            have e2 : x68 = .bool true := hd 18 (by kernel_rfl) _ rfl
            subst e0 e2
            change wpList _ _ _ [_] _ _
            have hpw := hp5.below hJ
            have hownw := own_below hown5 hJ
            have hbw := bl_trans hb05 hJ
            have hzw2 : w4.heap.size ≤ w5.heap.size := by have := hJ.size; omega
            have hapw := Lib.hid (apart_new own5 hown5 (Nat.le_refl _))
            have ownTL := own_mono own5 (Nat.zero_le _)
            obtain ⟨N, hN⟩ : ∃ N, t.natAbs = N := ⟨_, rfl⟩
            rw [timesT, hN] at HSN
            have hcase : (t = -(N : Int) ∧ 0 < N) ∨ t = (N : Int) := by omega
            have hN40 : N ≤ 40 := by omega
            have hd00 : w5.ownsRow w.heap.size 115 2 (.slice Ao d0.length co) (d0 ++ manyL TL 0).length ((d0 ++ manyL TL 0).flatMap cCross) := by rw [show d0 ++ manyL TL 0 = d0 from List.append_nil d0]; exact hownw
            clear hJ hd own5 hown5 hp5 hb05 hN htb HBD hownw
            obtain ⟨T, hT⟩ : ∃ T, N / 2 = T := ⟨_, rfl⟩
            have hT2 : (N : Int) / 2 = (T : Int) := by omega
            rw [hT] at HSN
            have hT20 : T ≤ 20 := by omega
            have HT := Lib.hid hT
            clear hT
            have hw9 : IntKind.i64.wrap (-(N : Int)) = -(N : Int) := IntWalk.i64_in _ (by omega)
            have hw8 : IntKind.i64.wrap (N : Int) = (N : Int) := IntWalk.i64_in _ (by omega)
            have hN1 : ¬ (N : Int) < -(N : Int) := by omega
            rcases hcase with ⟨rfl, hNp⟩ | rfl
            all_goals
              (try have hN2 : -(N : Int) < (N : Int) := by omega)
              go_upto_region 11 with (fail)
              (try rw [hT2])
              clear hw8 hw9 hN1 hN40 hT2
              (try clear hN2 hNp)
              go_loopw [6, 12] (fun p b wr => ∃ a : Nat, a ≤ T ∧ b = .int .i64 ((T - a : Nat) : Int) ∧ wr.ownsRow w.heap.size 115 2 p (d0 ++ manyL TL a).length ((d0 ++ manyL TL a).flatMap cCross) ∧ OwRows 28 3 wr Sp (.slice (some ⟨go, 0, none⟩) ps.length cp) ps ∧ Hid (∀ b ∈ Sp, b ∉ p.ownBlock.toList) ∧ wr.ownsRow 0 115 2 (.slice A5 TL.length c5) TL.length (TL.flatMap cCross) ∧ Hid (Apart (.slice A5 TL.length c5) p) ∧ w4.heap.size ≤ wr.heap.size ∧ Below w.heap.size w wr) (fun _ b _ => (intOf b).toNat)
              case atStart => exact ⟨0, Nat.zero_le _, rfl, hd00, hpw, hap, ownTL, hapw, hzw2, hbw⟩
              case round =>
                obtain ⟨a, ha, rfl, hown, hp, hap, hTLo, hapT, hzw, hb⟩ := hrel
                clear hd00 hpw ownTL hapw hzw2 hbw
                have hml := HML.out a (by omega)
                have hz3 := hb.size
                obtain ⟨Ao, co, rfl, _, _⟩ := (RdS.of_own hown).form
                by_cases hlt2 : a < T
                · have HS2 : Hid (d0 ++ manyL TL (a + 1) = (d0 ++ manyL TL a) ++ TL) := by show _ = _; rw [many_snoc, List.append_assoc]
                  have hda : (d0 ++ manyL TL a).length ≤ 20000 := by rw [List.length_append]; omega
                  generalize d0 ++ manyL TL a = da at *
                  obtain ⟨r, hr⟩ : ∃ r, T - a = r + 1 := ⟨T - a - 1, by omega⟩
                  have hr2 : T - (a + 1) = r := by omega
                  rw [hr]
                  have HR := Lib.hid (And.intro hr hr2)
                  have hr0 : ((r + 1 : Nat) : Int) > 0 := by omega
                  have hw7 : IntKind.i64.wrap (((r + 1 : Nat) : Int) - 1) = (r : Int) := by rw [IntWalk.i64_in _ (by omega)]; omega
                  have hw6 : (r : Int) + 1 > 0 := by omega
                  have hw5 : IntKind.i64.wrap (r : Int) = (r : Int) := IntWalk.i64_in _ (by omega)
                  have HRb : Hid (r ≤ 20) := by show r ≤ 20; omega
                  clear hr hr2
                  go_wp2_with (at_builtin; refine wpList_appendB _ rfl (.tmp 78) (.tmp 79) _ rfl w.heap.size 115 iX _ 2 16 Try.underlying44 hiX hzX0 hzX1 hzX2 rfl (by omega) _ da.length (da.flatMap cCross) rfl hown _ TL.length (TL.flatMap cCross) rfl (RdS.of_own hTLo) (oneCell_flat cCross_one TL) (by simp [maxLen]; omega) (by omega) (by omega) ?_; intro v6 w6 own6 gr6 at6)
                  have hch := Chg.of_grown gr6
                  obtain ⟨hp6, hap6⟩ := rows_grow hp (Below.refl _ _) (fun b hb => by have := hSp b hb; omega) hap.out gr6 at6
                  have hz6 := gr6.size
                  have hb6 : Below w.heap.size w w6 := hb.trans (below_own hown gr6 (by omega))
                  have HAP := Lib.hid hap6
                  have hTL6 := Lib.hid (own_chg hTLo hch hapT.out)
                  have hapT6 := Lib.hid (apart_grow hTLo hapT.out (Nat.le_refl _) at6)
                  obtain ⟨A6, c6, rfl, _, _⟩ := (RdS.of_own own6).form
                  clear gr6 at6 hch hap6 hTLo hapT
                  go_wp2_with fail
                  go_roundw
                  case rel => exact ⟨a + 1, hlt2, (by first | exact int_eq (show (r : Int) = ((T - (a + 1) : Nat) : Int) from by rw [HR.out.2]) | exact int_eq (show wrap64 (r : Int) = ((T - (a + 1) : Nat) : Int) from by rw [HR.out.2]; exact IntWalk.wrap64_in _ (by have := HRb.out; omega))), by rw [HS2.out, List.length_append, List.flatMap_append]; exact own6, hp6, HAP.out, hTL6.out, hapT6.out, Nat.le_trans hzw hz6, hb6⟩
                  case measure => first | exact Nat.lt_succ_self r | (rw [IntWalk.wrap64_in (r : Int) (by have := HRb.out; omega)]; exact Nat.lt_succ_self r)
                · obtain rfl : a = T := by omega
                  rw [← HSN.out] at hown hap ⊢
                  rw [Nat.sub_self]
                  go_wp2_with fail
                  go_roundw
                  case rel => exact ⟨k + 1, by omega, by go_num, by rw [HD1.out]; exact hown, hp, hap, hzw, hb⟩
                  case measure => simp [intOf]; omega
        · obtain rfl : k = ps.length := by omega
          rw [List.take_length] at hown ⊢
          go_wp2_with fail
          go_ret2
          rw [HU.out.1, HU.out.2, HUL.out]
          exact ⟨_, rfl, hown, hb⟩
    · have HU := Lib.hid (unwB_f2 (m := m) (fun e => hI0 (HI.out.2 e)))
      have hI' : ((I : Int) != 0) = true := by rw [bne_iff_ne]; omega
      clear HI
      go_wp2_with fail
      go_ret2
      rw [HU.out.1, HU.out.2]
      exact ⟨_, rfl, hown3, hb03⟩
  · have HU := Lib.hid (unwB_f1 hq.out)
    have hown1 := own_below hownA hb1
    have hb01 : Below w.heap.size w w1 := bl_trans hbA hb1
    go_wp2_with fail
    go_ret2
    rw [HU.out.1, HU.out.2]
    exact ⟨_, rfl, hown1, hb01⟩
end Go.Proofs.Ytjbhlbcjljdjmaa

namespace Go.Proofs.Ytjbhlbcjljdjmaa
open Go.RowKit
def untB (n : Int) (cs : List RCross) (pl : List RPl) : Bool := unwB n cs && withB n cs pl (unwV n cs)
def untC (n : Int) (cs : List RCross) (pl : List RPl) : List RCross := if untB n cs pl = true then cs ++ unwV n cs else cs
theorem unt_sz (n : Int) (cs : List RCross) (pl : List RPl) : szCompany (untC n cs pl) pl ≤ szCompany cs pl ∨ szCompany (untC n cs pl) pl ≤ 1000 := by
  unfold untC
  split
  · rename_i h
    rw [untB, Bool.and_eq_true] at h
    have := with_sz n cs pl (unwV n cs)
    rwa [withC, if_pos h.2] at this
  · exact .inl (Nat.le_refl _)
theorem unt_t {n : Int} {cs hl uc : List RCross} {pl : List RPl} {ub : Bool} (h : ub = (true && withB n cs pl hl) ∧ uc = if ub = true then cs ++ hl else cs) : withB n cs pl hl = ub ∧ withC n cs pl hl = uc := by
  obtain ⟨h1, h2⟩ := h
  rw [Bool.true_and] at h1
  exact ⟨h1.symm, by rw [h2, h1]; rfl⟩
theorem unt_f {n : Int} {cs hl uc : List RCross} {pl : List RPl} {ub : Bool} (h : ub = (false && withB n cs pl hl) ∧ uc = if ub = true then cs ++ hl else cs) : false = ub ∧ cs = uc := by
  obtain ⟨h1, h2⟩ := h
  rw [Bool.false_and] at h1
  exact ⟨h1.symm, by rw [h2, h1]; rfl⟩
set_option maxHeartbeats 8000000 in
set_option maxRecDepth 100000 in
theorem implUntwist_any (n : Int) (v1 v2 : Value) (cs : List RCross) (pl : List RPl) (w : World) (h : RdCompany w v1 v2 cs pl) (hsz : szCompany cs pl ≤ 1048576) :
    Calls Try.prog 25 #[.agg #[.int .i64 n, v1, v2]] w (RetCompany n (untB n cs pl) (untC n cs pl) pl w) := by
  obtain ⟨⟨A1, n1, rfl⟩, ⟨A2, n2, rfl⟩⟩ := h.forms
  have hU := fun W v hr => implUnwindAll_any n v cs W hr
  have HU : Hid (∀ (W : World) (v : Value), RdL cCross 2 W v cs → Calls Try.prog 72 #[.int .i64 n, v] W (RetUnw (unwB n cs) (unwV n cs) W)) := fun W v hr => hU W v hr
  clear hU
  have hll := unwV_len n cs
  have HG := Lib.hid (show untB n cs pl = (unwB n cs && withB n cs pl (unwV n cs)) ∧ untC n cs pl = if untB n cs pl = true then cs ++ unwV n cs else cs from ⟨rfl, rfl⟩)
  generalize untB n cs pl = ub at *
  generalize untC n cs pl = uc at *
  generalize unwB n cs = u at *
  generalize unwV n cs = hl at *
  cases u
  · skip
    obtain ⟨rfl, rfl⟩ := unt_f HG.out
    clear HG
    go_enter Try.func25, Try.ntmps25
    go_wp2_with fail
    refine (HU.out _ _ (h.below (by (repeat' (first | (with_reducible exact Below.refl _ _) | (with_reducible assumption) | (with_reducible refine Below.setCell ?_ (by first | omega | (simp; omega) | (simp; done)) _) | (with_reducible refine Below.alloc ?_ (by first | omega | (simp; omega) | (simp; done)) _) | (with_reducible refine Below.drew ?_) | (with_reducible refine below_drewN ?_ _))))).1).mono ?_
    rintro e W1 ⟨vl, rfl, ownl, q⟩
    have hvl : RdL cCross 2 W1 vl hl := RdS.of_own ownl
    clear ownl
    obtain ⟨Al, cl, rfl, _, _⟩ := hvl.form
    have Lc : Loc W1 (w.heap.size) [.int .i64 n, .slice A1 cs.length n1, .slice A2 pl.length n2] := by have := ((Loc.new w #[.int .i64 n, .slice A1 cs.length n1, .slice A2 pl.length n2] 47).alloc _).below q; simpa using this
    have Lr : Loc W1 (w.heap.size + 1) [.int .i64 0, .slice none 0 0, .slice none 0 0] := by have := (Loc.new (w.alloc (.cells #[.int .i64 n, .slice A1 cs.length n1, .slice A2 pl.length n2] 47)) #[.int .i64 0, .slice none 0 0, .slice none 0 0] 47).below q; simpa using this
    have hb : Below w.heap.size w W1 := Below.trans (by (repeat' (first | (with_reducible exact Below.refl _ _) | (with_reducible assumption) | (with_reducible refine Below.setCell ?_ (by first | omega | (simp; omega) | (simp; done)) _) | (with_reducible refine Below.alloc ?_ (by first | omega | (simp; omega) | (simp; done)) _) | (with_reducible refine Below.drew ?_) | (with_reducible refine below_drewN ?_ _)))) (q.mono (by simp <;> omega))
    have hz0 : w.heap.size + 1 + 1 ≤ W1.heap.size := by have := q.size; simp at this; omega
    clear q
    have c0 := (Lc 0 _ rfl).1
    have c1 := (Lc 1 _ rfl).1
    have c2 := (Lc 2 _ rfl).1
    go_wp2_with fail
    refine (companyCopied_any n _ _ cs pl _ (h.below hb) hsz).mono ?_
    rintro e W2 ⟨x1, x2, S, rfl, ow, f1, q⟩
    clear c0 c1 c2
    obtain ⟨⟨B1, k1, rfl⟩, ⟨B2, k2, rfl⟩⟩ := ow.rd.forms
    clear hvl hll
    have hzq : W1.heap.size ≤ W2.heap.size := by have := q.size; (try simp at this); omega
    replace Lc := Lc.below q
    replace Lr := Lr.below q
    replace hb : Below w.heap.size w W2 := hb.trans (q.mono hb.size)
    have hlow : W1.heap.size ≤ W1.heap.size := by first | exact Nat.le_refl _ | (simp; done) | (simp; omega) | omega
    have FK := Lib.hid (fresh_mono f1 hlow (Nat.le_refl _))
    have DK : Hid (∀ x ∈ S, x ∉ [w.heap.size, w.heap.size + 1]) := (fun x hx => by have := (FK.out.2 x hx).1; simp; omega)
    have OK := Lib.hid ow
    clear ow f1 hlow
    clear q
    have r0 := (Lr 0 _ rfl).1
    have rf0 := (Lr 0 _ rfl).2
    have r1 := (Lr 1 _ rfl).1
    have rf1 := (Lr 1 _ rfl).2
    have r2 := (Lr 2 _ rfl).1
    have rf2 := (Lr 2 _ rfl).2
    go_wp2_with fail
    refine bodyPost_ret (v := .tuple #[.agg #[.int .i64 n, .slice B1 cs.length k1, .slice B2 pl.length k2], .bool false]) (by simp [results, Try.results25, go_sem, *]) rfl (⟨_, _, S, rfl, ?_, ?_, ?_⟩)
    · exact OK.out.chg (T := [w.heap.size + 1]) (by repeat' (first | (with_reducible exact Chg.refl _ _) | (with_reducible refine chg_set ?_ (by simp)))) (fun x hx hx' => DK.out x hx (by simp at hx'; subst hx'; simp))
    · exact fresh_mono FK.out (by omega) (by simp)
    · exact Below.chg hb (S := [w.heap.size + 1]) (by repeat' (first | (with_reducible exact Chg.refl _ _) | (with_reducible refine chg_set ?_ (by simp)))) hb.size (fun x hx => by simp at hx; omega)
  · skip
    have HW : Hid (∀ (W : World) (vl v1 v2 : Value), RdCompany W v1 v2 cs pl → RdL cCross 2 W vl hl → Calls Try.prog 74 #[.agg #[.int .i64 n, v1, v2], vl] W (RetCompany n ub uc pl W)) := by
      obtain ⟨e1, e2⟩ := unt_t HG.out
      rw [← e1, ← e2]
      exact fun W vl v1 v2 h1 h2 => implWith_any n v1 v2 vl cs pl hl W h1 h2 (by omega) hsz
    clear HG
    go_enter Try.func25, Try.ntmps25
    go_wp2_with fail
    refine (HU.out _ _ (h.below (by (repeat' (first | (with_reducible exact Below.refl _ _) | (with_reducible assumption) | (with_reducible refine Below.setCell ?_ (by first | omega | (simp; omega) | (simp; done)) _) | (with_reducible refine Below.alloc ?_ (by first | omega | (simp; omega) | (simp; done)) _) | (with_reducible refine Below.drew ?_) | (with_reducible refine below_drewN ?_ _))))).1).mono ?_
    rintro e W1 ⟨vl, rfl, ownl, q⟩
    have hvl : RdL cCross 2 W1 vl hl := RdS.of_own ownl
    clear ownl
    obtain ⟨Al, cl, rfl, _, _⟩ := hvl.form
    have Lc : Loc W1 (w.heap.size) [.int .i64 n, .slice A1 cs.length n1, .slice A2 pl.length n2] := by have := ((Loc.new w #[.int .i64 n, .slice A1 cs.length n1, .slice A2 pl.length n2] 47).alloc _).below q; simpa using this
    have Lr : Loc W1 (w.heap.size + 1) [.int .i64 0, .slice none 0 0, .slice none 0 0] := by have := (Loc.new (w.alloc (.cells #[.int .i64 n, .slice A1 cs.length n1, .slice A2 pl.length n2] 47)) #[.int .i64 0, .slice none 0 0, .slice none 0 0] 47).below q; simpa using this
    have hb : Below w.heap.size w W1 := Below.trans (by (repeat' (first | (with_reducible exact Below.refl _ _) | (with_reducible assumption) | (with_reducible refine Below.setCell ?_ (by first | omega | (simp; omega) | (simp; done)) _) | (with_reducible refine Below.alloc ?_ (by first | omega | (simp; omega) | (simp; done)) _) | (with_reducible refine Below.drew ?_) | (with_reducible refine below_drewN ?_ _)))) (q.mono (by simp <;> omega))
    have hz0 : w.heap.size + 1 + 1 ≤ W1.heap.size := by have := q.size; simp at this; omega
    clear q
    have c0 := (Lc 0 _ rfl).1
    have c1 := (Lc 1 _ rfl).1
    have c2 := (Lc 2 _ rfl).1
    go_wp2_with fail
    refine (HW.out _ _ _ _ (h.below hb) hvl).mono ?_
    rintro e W2 ⟨x1, x2, S, rfl, ow, f1, q⟩
    clear c0 c1 c2
    obtain ⟨⟨B1, k1, rfl⟩, ⟨B2, k2, rfl⟩⟩ := ow.rd.forms
    clear hvl
    have hzq : W1.heap.size ≤ W2.heap.size := by have := q.size; (try simp at this); omega
    replace Lc := Lc.below q
    replace Lr := Lr.below q
    replace hb : Below w.heap.size w W2 := hb.trans (q.mono hb.size)
    have hlow : W1.heap.size ≤ W1.heap.size := by first | exact Nat.le_refl _ | (simp; done) | (simp; omega) | omega
    have FK := Lib.hid (fresh_mono f1 hlow (Nat.le_refl _))
    have DK : Hid (∀ x ∈ S, x ∉ [w.heap.size, w.heap.size + 1]) := (fun x hx => by have := (FK.out.2 x hx).1; simp; omega)
    have OK := Lib.hid ow
    clear ow f1 hlow
    clear q
    have r0 := (Lr 0 _ rfl).1
    have rf0 := (Lr 0 _ rfl).2
    have r1 := (Lr 1 _ rfl).1
    have rf1 := (Lr 1 _ rfl).2
    have r2 := (Lr 2 _ rfl).1
    have rf2 := (Lr 2 _ rfl).2
    go_wp2_with fail
    refine bodyPost_ret (v := .tuple #[.agg #[.int .i64 n, .slice B1 uc.length k1, .slice B2 pl.length k2], .bool ub]) (by simp [results, Try.results25, go_sem, *]) rfl (⟨_, _, S, rfl, ?_, ?_, ?_⟩)
    · exact OK.out.chg (T := [w.heap.size + 1]) (by repeat' (first | (with_reducible exact Chg.refl _ _) | (with_reducible refine chg_set ?_ (by simp)))) (fun x hx hx' => DK.out x hx (by simp at hx'; subst hx'; simp))
    · exact fresh_mono FK.out (by omega) (by simp)
    · exact Below.chg hb (S := [w.heap.size + 1]) (by repeat' (first | (with_reducible exact Chg.refl _ _) | (with_reducible refine chg_set ?_ (by simp)))) hb.size (fun x hx => by simp at hx; omega)
set_option maxHeartbeats 8000000 in
set_option maxRecDepth 100000 in
theorem specUntwist_any (n : Int) (v1 v2 : Value) (cs : List RCross) (pl : List RPl) (w : World) (h : RdCompany w v1 v2 cs pl) (hsz : szCompany cs pl ≤ 1048576) :
    Calls Try.prog 24 #[.agg #[.int .i64 n, v1, v2]] w (RetCompany n (untB n cs pl) (untC n cs pl) pl w) := by
  obtain ⟨⟨A1, n1, rfl⟩, ⟨A2, n2, rfl⟩⟩ := h.forms
  have hU := fun W v hr => specUnwindAll_any n v cs W hr
  have HU : Hid (∀ (W : World) (v : Value), RdL cCross 2 W v cs → Calls Try.prog 69 #[.int .i64 n, v] W (RetUnw (unwB n cs) (unwV n cs) W)) := fun W v hr => hU W v hr
  clear hU
  have hll := unwV_len n cs
  have HG := Lib.hid (show untB n cs pl = (unwB n cs && withB n cs pl (unwV n cs)) ∧ untC n cs pl = if untB n cs pl = true then cs ++ unwV n cs else cs from ⟨rfl, rfl⟩)
  generalize untB n cs pl = ub at *
  generalize untC n cs pl = uc at *
  generalize unwB n cs = u at *
  generalize unwV n cs = hl at *
  cases u
  · skip
    obtain ⟨rfl, rfl⟩ := unt_f HG.out
    clear HG
    go_enter Try.func24, Try.ntmps24
    go_wp2_with fail
    refine (HU.out _ _ (h.below (by (repeat' (first | (with_reducible exact Below.refl _ _) | (with_reducible assumption) | (with_reducible refine Below.setCell ?_ (by first | omega | (simp; omega) | (simp; done)) _) | (with_reducible refine Below.alloc ?_ (by first | omega | (simp; omega) | (simp; done)) _) | (with_reducible refine Below.drew ?_) | (with_reducible refine below_drewN ?_ _))))).1).mono ?_
    rintro e W1 ⟨vl, rfl, ownl, q⟩
    have hvl : RdL cCross 2 W1 vl hl := RdS.of_own ownl
    clear ownl
    obtain ⟨Al, cl, rfl, _, _⟩ := hvl.form
    have Lc : Loc W1 (w.heap.size) [.int .i64 n, .slice A1 cs.length n1, .slice A2 pl.length n2] := by have := ((Loc.new w #[.int .i64 n, .slice A1 cs.length n1, .slice A2 pl.length n2] 47).alloc _).below q; simpa using this
    have Lr : Loc W1 (w.heap.size + 1) [.int .i64 0, .slice none 0 0, .slice none 0 0] := by have := (Loc.new (w.alloc (.cells #[.int .i64 n, .slice A1 cs.length n1, .slice A2 pl.length n2] 47)) #[.int .i64 0, .slice none 0 0, .slice none 0 0] 47).below q; simpa using this
    have hb : Below w.heap.size w W1 := Below.trans (by (repeat' (first | (with_reducible exact Below.refl _ _) | (with_reducible assumption) | (with_reducible refine Below.setCell ?_ (by first | omega | (simp; omega) | (simp; done)) _) | (with_reducible refine Below.alloc ?_ (by first | omega | (simp; omega) | (simp; done)) _) | (with_reducible refine Below.drew ?_) | (with_reducible refine below_drewN ?_ _)))) (q.mono (by simp <;> omega))
    have hz0 : w.heap.size + 1 + 1 ≤ W1.heap.size := by have := q.size; simp at this; omega
    clear q
    have c0 := (Lc 0 _ rfl).1
    have c1 := (Lc 1 _ rfl).1
    have c2 := (Lc 2 _ rfl).1
    go_wp2_with fail
    refine (l37Copy_any n _ _ cs pl _ (h.below hb) hsz).mono ?_
    rintro e W2 ⟨x1, x2, S, rfl, ow, f1, q⟩
    clear c0 c1 c2
    obtain ⟨⟨B1, k1, rfl⟩, ⟨B2, k2, rfl⟩⟩ := ow.rd.forms
    clear hvl hll
    have hzq : W1.heap.size ≤ W2.heap.size := by have := q.size; (try simp at this); omega
    replace Lc := Lc.below q
    replace Lr := Lr.below q
    replace hb : Below w.heap.size w W2 := hb.trans (q.mono hb.size)
    have hlow : W1.heap.size ≤ W1.heap.size := by first | exact Nat.le_refl _ | (simp; done) | (simp; omega) | omega
    have FK := Lib.hid (fresh_mono f1 hlow (Nat.le_refl _))
    have DK : Hid (∀ x ∈ S, x ∉ [w.heap.size, w.heap.size + 1]) := (fun x hx => by have := (FK.out.2 x hx).1; simp; omega)
    have OK := Lib.hid ow
    clear ow f1 hlow
    clear q
    have r0 := (Lr 0 _ rfl).1
    have rf0 := (Lr 0 _ rfl).2
    have r1 := (Lr 1 _ rfl).1
    have rf1 := (Lr 1 _ rfl).2
    have r2 := (Lr 2 _ rfl).1
    have rf2 := (Lr 2 _ rfl).2
    go_wp2_with fail
    refine bodyPost_ret (v := .tuple #[.agg #[.int .i64 n, .slice B1 cs.length k1, .slice B2 pl.length k2], .bool false]) (by simp [results, Try.results24, go_sem, *]) rfl (⟨_, _, S, rfl, ?_, ?_, ?_⟩)
    · exact OK.out.chg (T := [w.heap.size + 1]) (by repeat' (first | (with_reducible exact Chg.refl _ _) | (with_reducible refine chg_set ?_ (by simp)))) (fun x hx hx' => DK.out x hx (by simp at hx'; subst hx'; simp))
    · exact fresh_mono FK.out (by omega) (by simp)
    · exact Below.chg hb (S := [w.heap.size + 1]) (by repeat' (first | (with_reducible exact Chg.refl _ _) | (with_reducible refine chg_set ?_ (by simp)))) hb.size (fun x hx => by simp at hx; omega)
  · skip
    have HW : Hid (∀ (W : World) (vl v1 v2 : Value), RdCompany W v1 v2 cs pl → RdL cCross 2 W vl hl → Calls Try.prog 71 #[.agg #[.int .i64 n, v1, v2], vl] W (RetCompany n ub uc pl W)) := by
      obtain ⟨e1, e2⟩ := unt_t HG.out
      rw [← e1, ← e2]
      exact fun W vl v1 v2 h1 h2 => l37Add_any n v1 v2 vl cs pl hl W h1 h2 (by omega) hsz
    clear HG
    go_enter Try.func24, Try.ntmps24
    go_wp2_with fail
    refine (HU.out _ _ (h.below (by (repeat' (first | (with_reducible exact Below.refl _ _) | (with_reducible assumption) | (with_reducible refine Below.setCell ?_ (by first | omega | (simp; omega) | (simp; done)) _) | (with_reducible refine Below.alloc ?_ (by first | omega | (simp; omega) | (simp; done)) _) | (with_reducible refine Below.drew ?_) | (with_reducible refine below_drewN ?_ _))))).1).mono ?_
    rintro e W1 ⟨vl, rfl, ownl, q⟩
    have hvl : RdL cCross 2 W1 vl hl := RdS.of_own ownl
    clear ownl
    obtain ⟨Al, cl, rfl, _, _⟩ := hvl.form
    have Lc : Loc W1 (w.heap.size) [.int .i64 n, .slice A1 cs.length n1, .slice A2 pl.length n2] := by have := ((Loc.new w #[.int .i64 n, .slice A1 cs.length n1, .slice A2 pl.length n2] 47).alloc _).below q; simpa using this
    have Lr : Loc W1 (w.heap.size + 1) [.int .i64 0, .slice none 0 0, .slice none 0 0] := by have := (Loc.new (w.alloc (.cells #[.int .i64 n, .slice A1 cs.length n1, .slice A2 pl.length n2] 47)) #[.int .i64 0, .slice none 0 0, .slice none 0 0] 47).below q; simpa using this
    have hb : Below w.heap.size w W1 := Below.trans (by (repeat' (first | (with_reducible exact Below.refl _ _) | (with_reducible assumption) | (with_reducible refine Below.setCell ?_ (by first | omega | (simp; omega) | (simp; done)) _) | (with_reducible refine Below.alloc ?_ (by first | omega | (simp; omega) | (simp; done)) _) | (with_reducible refine Below.drew ?_) | (with_reducible refine below_drewN ?_ _)))) (q.mono (by simp <;> omega))
    have hz0 : w.heap.size + 1 + 1 ≤ W1.heap.size := by have := q.size; simp at this; omega
    clear q
    have c0 := (Lc 0 _ rfl).1
    have c1 := (Lc 1 _ rfl).1
    have c2 := (Lc 2 _ rfl).1
    go_wp2_with fail
    refine (HW.out _ _ _ _ (h.below hb) hvl).mono ?_
    rintro e W2 ⟨x1, x2, S, rfl, ow, f1, q⟩
    clear c0 c1 c2
    obtain ⟨⟨B1, k1, rfl⟩, ⟨B2, k2, rfl⟩⟩ := ow.rd.forms
    clear hvl
    have hzq : W1.heap.size ≤ W2.heap.size := by have := q.size; (try simp at this); omega
    replace Lc := Lc.below q
    replace Lr := Lr.below q
    replace hb : Below w.heap.size w W2 := hb.trans (q.mono hb.size)
    have hlow : W1.heap.size ≤ W1.heap.size := by first | exact Nat.le_refl _ | (simp; done) | (simp; omega) | omega
    have FK := Lib.hid (fresh_mono f1 hlow (Nat.le_refl _))
    have DK : Hid (∀ x ∈ S, x ∉ [w.heap.size, w.heap.size + 1]) := (fun x hx => by have := (FK.out.2 x hx).1; simp; omega)
    have OK := Lib.hid ow
    clear ow f1 hlow
    clear q
    go_upto_region 5 with (fail)
    replace Lc : Loc (W2.alloc (.cells #[.int .i64 n, .slice B1 uc.length k1, .slice B2 pl.length k2] 47)) (w.heap.size) [.int .i64 n, .slice A1 cs.length n1, .slice A2 pl.length n2] := Lc.alloc _
    replace Lr : Loc (W2.alloc (.cells #[.int .i64 n, .slice B1 uc.length k1, .slice B2 pl.length k2] 47)) (w.heap.size + 1) [.int .i64 0, .slice none 0 0, .slice none 0 0] := Lr.alloc _
    obtain ⟨go, hgo⟩ : ∃ g, W2.heap.size = g := ⟨_, rfl⟩
    have Lo : Loc (W2.alloc (.cells #[.int .i64 n, .slice B1 uc.length k1, .slice B2 pl.length k2] 47)) W2.heap.size [.int .i64 n, .slice B1 uc.length k1, .slice B2 pl.length k2] := Loc.new W2 #[.int .i64 n, .slice B1 uc.length k1, .slice B2 pl.length k2] 47
    rw [hgo] at Lo
    have OK' := Lib.hid (OK.out.below (w' := (W2.alloc (.cells #[.int .i64 n, .slice B1 uc.length k1, .slice B2 pl.length k2] 47))) ((Below.refl _ _).alloc (Nat.le_refl _) _))
    clear OK; have OK := OK'; clear OK'
    have DK' : Hid (∀ x ∈ S, x ∉ [w.heap.size, w.heap.size + 1, go]) := (fun x hx => by have := DK.out x hx; have := (FK.out.2 x hx).2; simp at *; omega)
    clear DK; have DK := DK'; clear DK'
    have FK' := Lib.hid (fresh_mono (w' := (W2.alloc (.cells #[.int .i64 n, .slice B1 uc.length k1, .slice B2 pl.length k2] 47))) FK.out (Nat.le_refl _) (by simp))
    clear FK; have FK := FK'; clear FK'
    replace hb : Below w.heap.size w (W2.alloc (.cells #[.int .i64 n, .slice B1 uc.length k1, .slice B2 pl.length k2] 47)) := hb.alloc hb.size _
    have hlto : go < (W2.alloc (.cells #[.int .i64 n, .slice B1 uc.length k1, .slice B2 pl.length k2] 47)).heap.size := by simp; omega
    have hne_c_o : w.heap.size < go := by omega
    have hne_r_o : w.heap.size + 1 < go := by omega
    generalize W2.alloc (.cells #[.int .i64 n, .slice B1 uc.length k1, .slice B2 pl.length k2] 47) = W3 at *
    rw [hgo]
    clear hgo
    have o0 := (Lo 0 _ rfl).1
    have o1 := (Lo 1 _ rfl).1
    have o2 := (Lo 2 _ rfl).1
    have r0 := (Lr 0 _ rfl).1
    have rf0 := (Lr 0 _ rfl).2
    have r1 := (Lr 1 _ rfl).1
    have rf1 := (Lr 1 _ rfl).2
    have r2 := (Lr 2 _ rfl).1
    have rf2 := (Lr 2 _ rfl).2
    go_wp2_with fail
    refine bodyPost_ret (v := .tuple #[.agg #[.int .i64 n, .slice B1 uc.length k1, .slice B2 pl.length k2], .bool ub]) (by simp [results, Try.results24, go_sem, *]) rfl (⟨_, _, S, rfl, ?_, ?_, ?_⟩)
    · exact OK.out.chg (T := [w.heap.size + 1]) (by repeat' (first | (with_reducible exact Chg.refl _ _) | (with_reducible refine chg_set ?_ (by simp)))) (fun x hx hx' => DK.out x hx (by simp at hx'; subst hx'; simp))
    · exact fresh_mono FK.out (by omega) (by simp)
    · exact Below.chg hb (S := [w.heap.size + 1]) (by repeat' (first | (with_reducible exact Chg.refl _ _) | (with_reducible refine chg_set ?_ (by simp)))) hb.size (fun x hx => by simp at hx; omega)
end Go.Proofs.Ytjbhlbcjljdjmaa

namespace Go.Proofs.Ytjbhlbcjljdjmaa
open Go.RowKit
def putC (n : Int) (cs : List RCross) (pl : List RPl) : List RCross := tidyC n (untC n (goC n cs pl) pl) pl
def putT (t : Th) : Th × Bool := becF t ⟨t.n, t.m, putC t.n t.cs t.pl, t.pl, t.ds⟩ (goB t.n t.cs t.pl && untB t.n (goC t.n t.cs t.pl) t.pl)
theorem with_company {n : Int} {cs l : List RCross} {pl : List RPl} (h : withB n cs pl l = true) : companyB n (withC n cs pl l) pl = true := by
  rw [withC, if_pos h]
  rw [withB, Bool.and_eq_true] at h
  exact h.2
theorem unt_company {n : Int} {cs : List RCross} {pl : List RPl} (h : untB n cs pl = true) : companyB n (untC n cs pl) pl = true := by
  rw [untC, if_pos h]
  rw [untB, Bool.and_eq_true] at h
  have := with_company h.2
  rwa [withC, if_pos h.2] at this
theorem tidy_company {n : Int} {cs : List RCross} {pl : List RPl} (h : companyB n cs pl = true) : companyB n (tidyC n cs pl) pl = true := by
  rw [tidyC, if_pos h]
  obtain ⟨h1, h2⟩ := company_n h
  obtain ⟨hn, _, _⟩ := crosses_len h1
  obtain ⟨m, rfl⟩ := Int.eq_ofNat_of_zero_le (show 0 ≤ n by omega)
  rw [companyB, Bool.and_eq_true]
  refine ⟨?_, h2⟩
  unfold redL
  rw [if_pos h1]
  exact redF_valid h1
theorem put_ok {n m : Int} {cs : List RCross} {pl : List RPl} {ds : List Int} (h : theatreB n m cs pl ds = true) (h2 : untB n (goC n cs pl) pl = true) : theatreB n m (putC n cs pl) pl ds = true := by
  unfold theatreB at h ⊢
  rw [Bool.and_eq_true, Bool.and_eq_true] at h ⊢
  exact ⟨⟨tidy_company (unt_company h2), h.1.2⟩, h.2⟩
set_option maxHeartbeats 8000000 in
set_option maxRecDepth 100000 in
theorem implPutInOrder_any (n m : Int) (v1 v2 v3 : Value) (cs : List RCross) (pl : List RPl) (ds : List Int) (w : World) (h : RdTheatre w v1 v2 v3 cs pl ds) (hsz : szTheatre cs pl ds ≤ 1048576) :
    Calls Try.prog 36 #[.agg #[.int .i64 n, v1, v2, v3, .int .i64 m]] w (RetTh w.heap.size (putT ⟨n, m, cs, pl, ds⟩) w) := by
  obtain ⟨⟨A1, n1, rfl⟩, ⟨A2, n2, rfl⟩, ⟨A3, n3, rfl⟩⟩ := h.forms
  have hszc : szCompany cs pl ≤ 1048576 := by unfold szTheatre at hsz; omega
  have hs1 := go_sz n cs pl
  have hs2 := unt_sz n (goC n cs pl) pl
  unfold putT
  have HG : Hid (∀ W v1 v2, RdCompany W v1 v2 cs pl → Calls Try.prog 44 #[.agg #[.int .i64 n, v1, v2]] W (RetCompany n (goB n cs pl) (goC n cs pl) pl W)) := fun W v1 v2 hr => implGoHome_any n v1 v2 cs pl W hr (by omega)
  have HU : Hid (∀ W v1 v2, RdCompany W v1 v2 (goC n cs pl) pl → Calls Try.prog 25 #[.agg #[.int .i64 n, v1, v2]] W (RetCompany n (untB n (goC n cs pl) pl) (untC n (goC n cs pl) pl) pl W)) := fun W v1 v2 hr => implUntwist_any n v1 v2 (goC n cs pl) pl W hr (by omega)
  have HT : Hid (∀ W v1 v2, RdCompany W v1 v2 (untC n (goC n cs pl) pl) pl → Calls Try.prog 48 #[.agg #[.int .i64 n, v1, v2]] W (ToCompany n (putC n cs pl) pl W)) := fun W v1 v2 hr => implTidy_any n v1 v2 (untC n (goC n cs pl) pl) pl W hr (by omega)
  have HOK : Hid (theatreB n m cs pl ds = true → untB n (goC n cs pl) pl = true → theatreB n m (putC n cs pl) pl ds = true) := fun h h2 => put_ok h h2
  clear hs1 hs2
  generalize putC n cs pl = c3 at *
  generalize untC n (goC n cs pl) pl = c2 at *
  generalize untB n (goC n cs pl) pl = b2 at *
  generalize goC n cs pl = c1 at *
  generalize goB n cs pl = b1 at *
  obtain ⟨⟨⟨rn, rm, rcs, rpl, rds⟩, rb⟩, hres⟩ : ∃ res, becF ⟨n, m, cs, pl, ds⟩ ⟨n, m, c3, pl, ds⟩ (b1 && b2) = res := ⟨_, rfl⟩
  rw [hres]
  change Calls _ _ _ _ (RetT w.heap.size rn rm rb rcs rpl rds w)
  have Hres := Lib.hid hres
  clear hres
  go_enter Try.func36, Try.ntmps36
  go_wp2_with fail
  refine (theatreCopied_any n m _ _ _ cs pl ds _ (h.below (by (repeat' (first | (with_reducible exact Below.refl _ _) | (with_reducible assumption) | (with_reducible refine Below.setCell ?_ (by first | omega | (simp; omega) | (simp; done)) _) | (with_reducible refine Below.alloc ?_ (by first | omega | (simp; omega) | (simp; done)) _) | (with_reducible refine Below.drew ?_) | (with_reducible refine below_drewN ?_ _))))) hsz).mono ?_
  rintro e W1 ⟨x1, x2, x3, S, rfl, ow, f1, q⟩
  obtain ⟨⟨B1, k1, rfl⟩, ⟨B2, k2, rfl⟩, ⟨B3, k3, rfl⟩⟩ := ow.rd.forms
  have Lc : Loc W1 (w.heap.size) [.int .i64 n, .slice A1 cs.length n1, .slice A2 pl.length n2, .slice A3 ds.length n3, .int .i64 m] := by have := ((Loc.new w #[.int .i64 n, .slice A1 cs.length n1, .slice A2 pl.length n2, .slice A3 ds.length n3, .int .i64 m] 58).alloc _).below q; simpa using this
  have Lr : Loc W1 (w.heap.size + 1) [.int .i64 0, .slice none 0 0, .slice none 0 0, .slice none 0 0, .int .i64 0] := by have := (Loc.new (w.alloc (.cells #[.int .i64 n, .slice A1 cs.length n1, .slice A2 pl.length n2, .slice A3 ds.length n3, .int .i64 m] 58)) #[.int .i64 0, .slice none 0 0, .slice none 0 0, .slice none 0 0, .int .i64 0] 58).below q; simpa using this
  have hb : Below w.heap.size w W1 := Below.trans (by (repeat' (first | (with_reducible exact Below.refl _ _) | (with_reducible assumption) | (with_reducible refine Below.setCell ?_ (by first | omega | (simp; omega) | (simp; done)) _) | (with_reducible refine Below.alloc ?_ (by first | omega | (simp; omega) | (simp; done)) _) | (with_reducible refine Below.drew ?_) | (with_reducible refine below_drewN ?_ _)))) (q.mono (by simp <;> omega))
  have hz0 : w.heap.size + 1 + 1 ≤ W1.heap.size := by have := q.size; simp at this; omega
  have hlow : w.heap.size + 1 + 1 ≤ (((w.alloc (.cells #[.int .i64 n, .slice A1 cs.length n1, .slice A2 pl.length n2, .slice A3 ds.length n3, .int .i64 m] 58)).alloc (.cells #[.int .i64 0, .slice none 0 0, .slice none 0 0, .slice none 0 0, .int .i64 0] 58))).heap.size := by first | exact Nat.le_refl _ | (simp; done) | (simp; omega) | omega
  have FK := Lib.hid (fresh_mono f1 hlow (Nat.le_refl _))
  have DK : Hid (∀ x ∈ S, x ∉ [w.heap.size, w.heap.size + 1]) := (fun x hx => by have := (FK.out.2 x hx).1; simp; omega)
  have OK := Lib.hid ow
  clear ow f1 hlow
  clear q
  go_upto_region 2 with (fail)
  replace Lc : Loc (W1.alloc (.cells #[.int .i64 n, .slice B1 cs.length k1, .slice B2 pl.length k2, .slice B3 ds.length k3, .int .i64 m] 58)) (w.heap.size) [.int .i64 n, .slice A1 cs.length n1, .slice A2 pl.length n2, .slice A3 ds.length n3, .int .i64 m] := Lc.alloc _
  replace Lr : Loc (W1.alloc (.cells #[.int .i64 n, .slice B1 cs.length k1, .slice B2 pl.length k2, .slice B3 ds.length k3, .int .i64 m] 58)) (w.heap.size + 1) [.int .i64 0, .slice none 0 0, .slice none 0 0, .slice none 0 0, .int .i64 0] := Lr.alloc _
  obtain ⟨go, hgo⟩ : ∃ g, W1.heap.size = g := ⟨_, rfl⟩
  have Lo : Loc (W1.alloc (.cells #[.int .i64 n, .slice B1 cs.length k1, .slice B2 pl.length k2, .slice B3 ds.length k3, .int .i64 m] 58)) W1.heap.size [.int .i64 n, .slice B1 cs.length k1, .slice B2 pl.length k2, .slice B3 ds.length k3, .int .i64 m] := Loc.new W1 #[.int .i64 n, .slice B1 cs.length k1, .slice B2 pl.length k2, .slice B3 ds.length k3, .int .i64 m] 58
  rw [hgo] at Lo
  have OK' := Lib.hid (OK.out.below (w' := (W1.alloc (.cells #[.int .i64 n, .slice B1 cs.length k1, .slice B2 pl.length k2, .slice B3 ds.length k3, .int .i64 m] 58))) ((Below.refl _ _).alloc (Nat.le_refl _) _))
  clear OK; have OK := OK'; clear OK'
  have DK' : Hid (∀ x ∈ S, x ∉ [w.heap.size, w.heap.size + 1, go]) := (fun x hx => by have := DK.out x hx; have := (FK.out.2 x hx).2; simp at *; omega)
  clear DK; have DK := DK'; clear DK'
  have FK' := Lib.hid (fresh_mono (w' := (W1.alloc (.cells #[.int .i64 n, .slice B1 cs.length k1, .slice B2 pl.length k2, .slice B3 ds.length k3, .int .i64 m] 58))) FK.out (Nat.le_refl _) (by simp))
  clear FK; have FK := FK'; clear FK'
  replace hb : Below w.heap.size w (W1.alloc (.cells #[.int .i64 n, .slice B1 cs.length k1, .slice B2 pl.length k2, .slice B3 ds.length k3, .int .i64 m] 58)) := hb.alloc hb.size _
  have hlto : go < (W1.alloc (.cells #[.int .i64 n, .slice B1 cs.length k1, .slice B2 pl.length k2, .slice B3 ds.length k3, .int .i64 m] 58)).heap.size := by simp; omega
  have hne_c_o : w.heap.size < go := by omega
  have hne_r_o : w.heap.size + 1 < go := by omega
  generalize W1.alloc (.cells #[.int .i64 n, .slice B1 cs.length k1, .slice B2 pl.length k2, .slice B3 ds.length k3, .int .i64 m] 58) = W2 at *
  rw [hgo]
  clear hgo
  have o0 := (Lo 0 _ rfl).1
  have o1 := (Lo 1 _ rfl).1
  have o2 := (Lo 2 _ rfl).1
  go_wp2_with fail
  refine (HG.out _ _ _ (OK.out.rd.1)).mono ?_
  rintro e W3 ⟨x4, x5, SX, rfl, oX, fX, q⟩
  clear o0 o1 o2
  obtain ⟨⟨C1, l1, rfl⟩, ⟨C2, l2, rfl⟩⟩ := oX.rd.forms
  have hzq : W2.heap.size ≤ W3.heap.size := by have := q.size; (try simp at this); omega
  replace Lc := Lc.below q
  replace Lr := Lr.below q
  replace Lo := Lo.below q
  have OK' := Lib.hid (OK.out.below q)
  clear OK; have OK := OK'; clear OK'
  have FK' := Lib.hid (fresh_mono (w' := W3) FK.out (Nat.le_refl _) hzq)
  clear FK; have FK := FK'; clear FK'
  replace hb : Below w.heap.size w W3 := hb.trans (q.mono hb.size)
  have hlow : W2.heap.size ≤ W2.heap.size := by first | exact Nat.le_refl _ | (simp; done) | (simp; omega) | omega
  have FX := Lib.hid (fresh_mono fX hlow (Nat.le_refl _))
  have DX : Hid (∀ x ∈ SX, x ∉ [w.heap.size, w.heap.size + 1, go]) := (fun x hx => by have := (FX.out.2 x hx).1; simp; omega)
  have OX := Lib.hid oX
  clear oX fX hlow
  clear q
  go_upto_region 3 with (fail)
  replace Lc : Loc (W3.alloc (.cells #[.int .i64 n, .slice C1 c1.length l1, .slice C2 pl.length l2] 47)) (w.heap.size) [.int .i64 n, .slice A1 cs.length n1, .slice A2 pl.length n2, .slice A3 ds.length n3, .int .i64 m] := Lc.alloc _
  replace Lr : Loc (W3.alloc (.cells #[.int .i64 n, .slice C1 c1.length l1, .slice C2 pl.length l2] 47)) (w.heap.size + 1) [.int .i64 0, .slice none 0 0, .slice none 0 0, .slice none 0 0, .int .i64 0] := Lr.alloc _
  replace Lo : Loc (W3.alloc (.cells #[.int .i64 n, .slice C1 c1.length l1, .slice C2 pl.length l2] 47)) (go) [.int .i64 n, .slice B1 cs.length k1, .slice B2 pl.length k2, .slice B3 ds.length k3, .int .i64 m] := Lo.alloc _
  obtain ⟨gp, hgp⟩ : ∃ g, W3.heap.size = g := ⟨_, rfl⟩
  have Lp : Loc (W3.alloc (.cells #[.int .i64 n, .slice C1 c1.length l1, .slice C2 pl.length l2] 47)) W3.heap.size [.int .i64 n, .slice C1 c1.length l1, .slice C2 pl.length l2] := Loc.new W3 #[.int .i64 n, .slice C1 c1.length l1, .slice C2 pl.length l2] 47
  rw [hgp] at Lp
  have OK' := Lib.hid (OK.out.below (w' := (W3.alloc (.cells #[.int .i64 n, .slice C1 c1.length l1, .slice C2 pl.length l2] 47))) ((Below.refl _ _).alloc (Nat.le_refl _) _))
  clear OK; have OK := OK'; clear OK'
  have OX' := Lib.hid (OX.out.below (w' := (W3.alloc (.cells #[.int .i64 n, .slice C1 c1.length l1, .slice C2 pl.length l2] 47))) ((Below.refl _ _).alloc (Nat.le_refl _) _))
  clear OX; have OX := OX'; clear OX'
  have DK' : Hid (∀ x ∈ S, x ∉ [w.heap.size, w.heap.size + 1, go, gp]) := (fun x hx => by have := DK.out x hx; have := (FK.out.2 x hx).2; simp at *; omega)
  clear DK; have DK := DK'; clear DK'
  have FK' := Lib.hid (fresh_mono (w' := (W3.alloc (.cells #[.int .i64 n, .slice C1 c1.length l1, .slice C2 pl.length l2] 47))) FK.out (Nat.le_refl _) (by simp))
  clear FK; have FK := FK'; clear FK'
  have DX' : Hid (∀ x ∈ SX, x ∉ [w.heap.size, w.heap.size + 1, go, gp]) := (fun x hx => by have := DX.out x hx; have := (FX.out.2 x hx).2; simp at *; omega)
  clear DX; have DX := DX'; clear DX'
  have FX' := Lib.hid (fresh_mono (w' := (W3.alloc (.cells #[.int .i64 n, .slice C1 c1.length l1, .slice C2 pl.length l2] 47))) FX.out (Nat.le_refl _) (by simp))
  clear FX; have FX := FX'; clear FX'
  replace hb : Below w.heap.size w (W3.alloc (.cells #[.int .i64 n, .slice C1 c1.length l1, .slice C2 pl.length l2] 47)) := hb.alloc hb.size _
  have hltp : gp < (W3.alloc (.cells #[.int .i64 n, .slice C1 c1.length l1, .slice C2 pl.length l2] 47)).heap.size := by simp; omega
  have hne_c_p : w.heap.size < gp := by omega
  have hne_r_p : w.heap.size + 1 < gp := by omega
  have hne_o_p : go < gp := by omega
  generalize W3.alloc (.cells #[.int .i64 n, .slice C1 c1.length l1, .slice C2 pl.length l2] 47) = W4 at *
  rw [hgp]
  clear hgp
  have p0 := (Lp 0 _ rfl).1
  have p1 := (Lp 1 _ rfl).1
  have p2 := (Lp 2 _ rfl).1
  go_wp2_with fail
  refine (HU.out _ _ _ (OX.out.rd)).mono ?_
  rintro e W5 ⟨y4, y5, SY, rfl, oY, fY, q⟩
  clear p0 p1 p2
  obtain ⟨⟨D1, j1, rfl⟩, ⟨D2, j2, rfl⟩⟩ := oY.rd.forms
  have hzq : W4.heap.size ≤ W5.heap.size := by have := q.size; (try simp at this); omega
  replace Lc := Lc.below q
  replace Lr := Lr.below q
  replace Lo := Lo.below q
  replace Lp := Lp.below q
  have OK' := Lib.hid (OK.out.below q)
  clear OK; have OK := OK'; clear OK'
  have FK' := Lib.hid (fresh_mono (w' := W5) FK.out (Nat.le_refl _) hzq)
  clear FK; have FK := FK'; clear FK'
  have OX' := Lib.hid (OX.out.below q)
  clear OX; have OX := OX'; clear OX'
  have FX' := Lib.hid (fresh_mono (w' := W5) FX.out (Nat.le_refl _) hzq)
  clear FX; have FX := FX'; clear FX'
  replace hb : Below w.heap.size w W5 := hb.trans (q.mono hb.size)
  have hlow : W4.heap.size ≤ W4.heap.size := by first | exact Nat.le_refl _ | (simp; done) | (simp; omega) | omega
  have FY := Lib.hid (fresh_mono fY hlow (Nat.le_refl _))
  have DY : Hid (∀ x ∈ SY, x ∉ [w.heap.size, w.heap.size + 1, go, gp]) := (fun x hx => by have := (FY.out.2 x hx).1; simp; omega)
  have OY := Lib.hid oY
  clear oY fY hlow
  clear q
  clear OX FX DX
  go_upto_region 4 with (fail)
  replace Lc : Loc (W5.alloc (.cells #[.int .i64 n, .slice D1 c2.length j1, .slice D2 pl.length j2] 47)) (w.heap.size) [.int .i64 n, .slice A1 cs.length n1, .slice A2 pl.length n2, .slice A3 ds.length n3, .int .i64 m] := Lc.alloc _
  replace Lr : Loc (W5.alloc (.cells #[.int .i64 n, .slice D1 c2.length j1, .slice D2 pl.length j2] 47)) (w.heap.size + 1) [.int .i64 0, .slice none 0 0, .slice none 0 0, .slice none 0 0, .int .i64 0] := Lr.alloc _
  replace Lo : Loc (W5.alloc (.cells #[.int .i64 n, .slice D1 c2.length j1, .slice D2 pl.length j2] 47)) (go) [.int .i64 n, .slice B1 cs.length k1, .slice B2 pl.length k2, .slice B3 ds.length k3, .int .i64 m] := Lo.alloc _
  replace Lp : Loc (W5.alloc (.cells #[.int .i64 n, .slice D1 c2.length j1, .slice D2 pl.length j2] 47)) (gp) [.int .i64 n, .slice C1 c1.length l1, .slice C2 pl.length l2] := Lp.alloc _
  obtain ⟨gq, hgq⟩ : ∃ g, W5.heap.size = g := ⟨_, rfl⟩
  have Lq : Loc (W5.alloc (.cells #[.int .i64 n, .slice D1 c2.length j1, .slice D2 pl.length j2] 47)) W5.heap.size [.int .i64 n, .slice D1 c2.length j1, .slice D2 pl.length j2] := Loc.new W5 #[.int .i64 n, .slice D1 c2.length j1, .slice D2 pl.length j2] 47
  rw [hgq] at Lq
  have OK' := Lib.hid (OK.out.below (w' := (W5.alloc (.cells #[.int .i64 n, .slice D1 c2.length j1, .slice D2 pl.length j2] 47))) ((Below.refl _ _).alloc (Nat.le_refl _) _))
  clear OK; have OK := OK'; clear OK'
  have OY' := Lib.hid (OY.out.below (w' := (W5.alloc (.cells #[.int .i64 n, .slice D1 c2.length j1, .slice D2 pl.length j2] 47))) ((Below.refl _ _).alloc (Nat.le_refl _) _))
  clear OY; have OY := OY'; clear OY'
  have DK' : Hid (∀ x ∈ S, x ∉ [w.heap.size, w.heap.size + 1, go, gp, gq]) := (fun x hx => by have := DK.out x hx; have := (FK.out.2 x hx).2; simp at *; omega)
  clear DK; have DK := DK'; clear DK'
  have FK' := Lib.hid (fresh_mono (w' := (W5.alloc (.cells #[.int .i64 n, .slice D1 c2.length j1, .slice D2 pl.length j2] 47))) FK.out (Nat.le_refl _) (by simp))
  clear FK; have FK := FK'; clear FK'
  have DY' : Hid (∀ x ∈ SY, x ∉ [w.heap.size, w.heap.size + 1, go, gp, gq]) := (fun x hx => by have := DY.out x hx; have := (FY.out.2 x hx).2; simp at *; omega)
  clear DY; have DY := DY'; clear DY'
  have FY' := Lib.hid (fresh_mono (w' := (W5.alloc (.cells #[.int .i64 n, .slice D1 c2.length j1, .slice D2 pl.length j2] 47))) FY.out (Nat.le_refl _) (by simp))
  clear FY; have FY := FY'; clear FY'
  replace hb : Below w.heap.size w (W5.alloc (.cells #[.int .i64 n, .slice D1 c2.length j1, .slice D2 pl.length j2] 47)) := hb.alloc hb.size _
  have hltq : gq < (W5.alloc (.cells #[.int .i64 n, .slice D1 c2.length j1, .slice D2 pl.length j2] 47)).heap.size := by simp; omega
  have hne_c_q : w.heap.size < gq := by omega
  have hne_r_q : w.heap.size + 1 < gq := by omega
  have hne_o_q : go < gq := by omega
  have hne_p_q : gp < gq := by omega
  generalize W5.alloc (.cells #[.int .i64 n, .slice D1 c2.length j1, .slice D2 pl.length j2] 47) = W6 at *
  rw [hgq]
  clear hgq
  have q0 := (Lq 0 _ rfl).1
  have q1 := (Lq 1 _ rfl).1
  have q2 := (Lq 2 _ rfl).1
  have hU : ∀ x ∈ S, x < W6.heap.size := fun x hx => (FK.out.2 x hx).2
  go_wp2_with fail
  refine (HT.out _ _ _ (OY.out.rd)).mono ?_
  rintro e W7 ⟨z4, z5, SZ, rfl, oZ, fZ, q⟩
  clear q0 q1 q2
  obtain ⟨⟨E1, i1, rfl⟩, ⟨E2, i2, rfl⟩⟩ := oZ.rd.forms
  have hzq : W6.heap.size ≤ W7.heap.size := by have := q.size; (try simp at this); omega
  replace Lc := Lc.below q
  replace Lr := Lr.below q
  replace Lo := Lo.below q
  replace Lp := Lp.below q
  replace Lq := Lq.below q
  have OK' := Lib.hid (OK.out.below q)
  clear OK; have OK := OK'; clear OK'
  have FK' := Lib.hid (fresh_mono (w' := W7) FK.out (Nat.le_refl _) hzq)
  clear FK; have FK := FK'; clear FK'
  have OY' := Lib.hid (OY.out.below q)
  clear OY; have OY := OY'; clear OY'
  have FY' := Lib.hid (fresh_mono (w' := W7) FY.out (Nat.le_refl _) hzq)
  clear FY; have FY := FY'; clear FY'
  replace hb : Below w.heap.size w W7 := hb.trans (q.mono hb.size)
  have hlow : W6.heap.size ≤ W6.heap.size := by first | exact Nat.le_refl _ | (simp; done) | (simp; omega) | omega
  have FZ := Lib.hid (fresh_mono fZ hlow (Nat.le_refl _))
  have DZ : Hid (∀ x ∈ SZ, x ∉ [w.heap.size, w.heap.size + 1, go, gp, gq]) := (fun x hx => by have := (FZ.out.2 x hx).1; simp; omega)
  have OZ := Lib.hid oZ
  clear oZ fZ hlow
  clear q
  clear OY FY DY
  have HJZ : Hid (∀ x ∈ SZ, x ∉ S) := (fun x hx hx' => by have := (FZ.out.2 x hx).1; have := hU x hx'; omega)
  clear hU
  obtain ⟨SK1, SK3, eK, oK, pK⟩ := OK.out
  have FKx := FK.out
  have DKx := DK.out
  rw [eK] at FKx DKx
  have OK1 := Lib.hid oK
  have OK3 := Lib.hid pK
  have FK1 := Lib.hid (fresh_left FKx)
  have FK3 := Lib.hid (fresh_right FKx)
  have DK1 : Hid (∀ x ∈ SK1, x ∉ [w.heap.size, w.heap.size + 1, go, gp, gq]) := (fun x hx => DKx x (List.mem_append_left _ hx))
  have DK3 : Hid (∀ x ∈ SK3, x ∉ [w.heap.size, w.heap.size + 1, go, gp, gq]) := (fun x hx => DKx x (List.mem_append_right _ hx))
  have JK : Hid (∀ x ∈ SK1, x ∉ SK3) := (nodup2 FKx.1).2.2.1
  clear OK FK DK FKx DKx oK pK
  clear OK1 FK1 DK1
  have o0 := (Lo 0 _ rfl).1
  have of0 := (Lo 0 _ rfl).2
  have o1 := (Lo 1 _ rfl).1
  have of1 := (Lo 1 _ rfl).2
  have o2 := (Lo 2 _ rfl).1
  have of2 := (Lo 2 _ rfl).2
  have o3 := (Lo 3 _ rfl).1
  have of3 := (Lo 3 _ rfl).2
  have o4 := (Lo 4 _ rfl).1
  have of4 := (Lo 4 _ rfl).2
  go_upto_region 5 with (fail)
  clear o0 of0 o1 of1 o2 of2 o3 of3 o4 of4
  replace Lc : Loc (W7.setCell ⟨go, 0, none⟩ (.int .i64 n)) (w.heap.size) [.int .i64 n, .slice A1 cs.length n1, .slice A2 pl.length n2, .slice A3 ds.length n3, .int .i64 m] := Lc.far (g := go) (i := 0) (u := .int .i64 n) (by omega)
  replace Lr : Loc (W7.setCell ⟨go, 0, none⟩ (.int .i64 n)) (w.heap.size + 1) [.int .i64 0, .slice none 0 0, .slice none 0 0, .slice none 0 0, .int .i64 0] := Lr.far (g := go) (i := 0) (u := .int .i64 n) (by omega)
  replace Lp : Loc (W7.setCell ⟨go, 0, none⟩ (.int .i64 n)) (gp) [.int .i64 n, .slice C1 c1.length l1, .slice C2 pl.length l2] := Lp.far (g := go) (i := 0) (u := .int .i64 n) (by omega)
  replace Lq : Loc (W7.setCell ⟨go, 0, none⟩ (.int .i64 n)) (gq) [.int .i64 n, .slice D1 c2.length j1, .slice D2 pl.length j2] := Lq.far (g := go) (i := 0) (u := .int .i64 n) (by omega)
  replace Lo : Loc (W7.setCell ⟨go, 0, none⟩ (.int .i64 n)) (go) [.int .i64 n, .slice B1 cs.length k1, .slice B2 pl.length k2, .slice B3 ds.length k3, .int .i64 m] := Lo.set (i := 0) (v := .int .i64 n) rfl
  have hch : Chg [go] W7 (W7.setCell ⟨go, 0, none⟩ (.int .i64 n)) := chg_set (Chg.refl _ _) (by simp)
  have OZ' := Lib.hid (OZ.out.chg hch (fun x hx hx' => DZ.out x hx (by simp at hx'; subst hx'; simp)))
  clear OZ; have OZ := OZ'; clear OZ'
  have FZ' := Lib.hid (fresh_mono (w' := (W7.setCell ⟨go, 0, none⟩ (.int .i64 n))) FZ.out (Nat.le_refl _) hch.size)
  clear FZ; have FZ := FZ'; clear FZ'
  have OK3' := Lib.hid (OK3.out.chg hch (fun x hx hx' => DK3.out x hx (by simp at hx'; subst hx'; simp)))
  clear OK3; have OK3 := OK3'; clear OK3'
  have FK3' := Lib.hid (fresh_mono (w' := (W7.setCell ⟨go, 0, none⟩ (.int .i64 n))) FK3.out (Nat.le_refl _) hch.size)
  clear FK3; have FK3 := FK3'; clear FK3'
  replace hb : Below w.heap.size w (W7.setCell ⟨go, 0, none⟩ (.int .i64 n)) := Below.chg hb hch hb.size (by simp; omega)
  have hzc := hch.size
  clear hch
  replace Lc : Loc ((W7.setCell ⟨go, 0, none⟩ (.int .i64 n)).setCell ⟨go, 1, none⟩ (.slice E1 c3.length i1)) (w.heap.size) [.int .i64 n, .slice A1 cs.length n1, .slice A2 pl.length n2, .slice A3 ds.length n3, .int .i64 m] := Lc.far (g := go) (i := 1) (u := .slice E1 c3.length i1) (by omega)
  replace Lr : Loc ((W7.setCell ⟨go, 0, none⟩ (.int .i64 n)).setCell ⟨go, 1, none⟩ (.slice E1 c3.length i1)) (w.heap.size + 1) [.int .i64 0, .slice none 0 0, .slice none 0 0, .slice none 0 0, .int .i64 0] := Lr.far (g := go) (i := 1) (u := .slice E1 c3.length i1) (by omega)
  replace Lp : Loc ((W7.setCell ⟨go, 0, none⟩ (.int .i64 n)).setCell ⟨go, 1, none⟩ (.slice E1 c3.length i1)) (gp) [.int .i64 n, .slice C1 c1.length l1, .slice C2 pl.length l2] := Lp.far (g := go) (i := 1) (u := .slice E1 c3.length i1) (by omega)
  replace Lq : Loc ((W7.setCell ⟨go, 0, none⟩ (.int .i64 n)).setCell ⟨go, 1, none⟩ (.slice E1 c3.length i1)) (gq) [.int .i64 n, .slice D1 c2.length j1, .slice D2 pl.length j2] := Lq.far (g := go) (i := 1) (u := .slice E1 c3.length i1) (by omega)
  replace Lo : Loc ((W7.setCell ⟨go, 0, none⟩ (.int .i64 n)).setCell ⟨go, 1, none⟩ (.slice E1 c3.length i1)) (go) [.int .i64 n, .slice E1 c3.length i1, .slice B2 pl.length k2, .slice B3 ds.length k3, .int .i64 m] := Lo.set (i := 1) (v := .slice B1 cs.length k1) rfl
  have hch : Chg [go] (W7.setCell ⟨go, 0, none⟩ (.int .i64 n)) ((W7.setCell ⟨go, 0, none⟩ (.int .i64 n)).setCell ⟨go, 1, none⟩ (.slice E1 c3.length i1)) := chg_set (Chg.refl _ _) (by simp)
  have OZ' := Lib.hid (OZ.out.chg hch (fun x hx hx' => DZ.out x hx (by simp at hx'; subst hx'; simp)))
  clear OZ; have OZ := OZ'; clear OZ'
  have FZ' := Lib.hid (fresh_mono (w' := ((W7.setCell ⟨go, 0, none⟩ (.int .i64 n)).setCell ⟨go, 1, none⟩ (.slice E1 c3.length i1))) FZ.out (Nat.le_refl _) hch.size)
  clear FZ; have FZ := FZ'; clear FZ'
  have OK3' := Lib.hid (OK3.out.chg hch (fun x hx hx' => DK3.out x hx (by simp at hx'; subst hx'; simp)))
  clear OK3; have OK3 := OK3'; clear OK3'
  have FK3' := Lib.hid (fresh_mono (w' := ((W7.setCell ⟨go, 0, none⟩ (.int .i64 n)).setCell ⟨go, 1, none⟩ (.slice E1 c3.length i1))) FK3.out (Nat.le_refl _) hch.size)
  clear FK3; have FK3 := FK3'; clear FK3'
  replace hb : Below w.heap.size w ((W7.setCell ⟨go, 0, none⟩ (.int .i64 n)).setCell ⟨go, 1, none⟩ (.slice E1 c3.length i1)) := Below.chg hb hch hb.size (by simp; omega)
  have hzc := hch.size
  clear hch
  replace Lc : Loc (((W7.setCell ⟨go, 0, none⟩ (.int .i64 n)).setCell ⟨go, 1, none⟩ (.slice E1 c3.length i1)).setCell ⟨go, 2, none⟩ (.slice E2 pl.length i2)) (w.heap.size) [.int .i64 n, .slice A1 cs.length n1, .slice A2 pl.length n2, .slice A3 ds.length n3, .int .i64 m] := Lc.far (g := go) (i := 2) (u := .slice E2 pl.length i2) (by omega)
  replace Lr : Loc (((W7.setCell ⟨go, 0, none⟩ (.int .i64 n)).setCell ⟨go, 1, none⟩ (.slice E1 c3.length i1)).setCell ⟨go, 2, none⟩ (.slice E2 pl.length i2)) (w.heap.size + 1) [.int .i64 0, .slice none 0 0, .slice none 0 0, .slice none 0 0, .int .i64 0] := Lr.far (g := go) (i := 2) (u := .slice E2 pl.length i2) (by omega)
  replace Lp : Loc (((W7.setCell ⟨go, 0, none⟩ (.int .i64 n)).setCell ⟨go, 1, none⟩ (.slice E1 c3.length i1)).setCell ⟨go, 2, none⟩ (.slice E2 pl.length i2)) (gp) [.int .i64 n, .slice C1 c1.length l1, .slice C2 pl.length l2] := Lp.far (g := go) (i := 2) (u := .slice E2 pl.length i2) (by omega)
  replace Lq : Loc (((W7.setCell ⟨go, 0, none⟩ (.int .i64 n)).setCell ⟨go, 1, none⟩ (.slice E1 c3.length i1)).setCell ⟨go, 2, none⟩ (.slice E2 pl.length i2)) (gq) [.int .i64 n, .slice D1 c2.length j1, .slice D2 pl.length j2] := Lq.far (g := go) (i := 2) (u := .slice E2 pl.length i2) (by omega)
  replace Lo : Loc (((W7.setCell ⟨go, 0, none⟩ (.int .i64 n)).setCell ⟨go, 1, none⟩ (.slice E1 c3.length i1)).setCell ⟨go, 2, none⟩ (.slice E2 pl.length i2)) (go) [.int .i64 n, .slice E1 c3.length i1, .slice E2 pl.length i2, .slice B3 ds.length k3, .int .i64 m] := Lo.set (i := 2) (v := .slice B2 pl.length k2) rfl
  have hch : Chg [go] ((W7.setCell ⟨go, 0, none⟩ (.int .i64 n)).setCell ⟨go, 1, none⟩ (.slice E1 c3.length i1)) (((W7.setCell ⟨go, 0, none⟩ (.int .i64 n)).setCell ⟨go, 1, none⟩ (.slice E1 c3.length i1)).setCell ⟨go, 2, none⟩ (.slice E2 pl.length i2)) := chg_set (Chg.refl _ _) (by simp)
  have OZ' := Lib.hid (OZ.out.chg hch (fun x hx hx' => DZ.out x hx (by simp at hx'; subst hx'; simp)))
  clear OZ; have OZ := OZ'; clear OZ'
  have FZ' := Lib.hid (fresh_mono (w' := (((W7.setCell ⟨go, 0, none⟩ (.int .i64 n)).setCell ⟨go, 1, none⟩ (.slice E1 c3.length i1)).setCell ⟨go, 2, none⟩ (.slice E2 pl.length i2))) FZ.out (Nat.le_refl _) hch.size)
  clear FZ; have FZ := FZ'; clear FZ'
  have OK3' := Lib.hid (OK3.out.chg hch (fun x hx hx' => DK3.out x hx (by simp at hx'; subst hx'; simp)))
  clear OK3; have OK3 := OK3'; clear OK3'
  have FK3' := Lib.hid (fresh_mono (w' := (((W7.setCell ⟨go, 0, none⟩ (.int .i64 n)).setCell ⟨go, 1, none⟩ (.slice E1 c3.length i1)).setCell ⟨go, 2, none⟩ (.slice E2 pl.length i2))) FK3.out (Nat.le_refl _) hch.size)
  clear FK3; have FK3 := FK3'; clear FK3'
  replace hb : Below w.heap.size w (((W7.setCell ⟨go, 0, none⟩ (.int .i64 n)).setCell ⟨go, 1, none⟩ (.slice E1 c3.length i1)).setCell ⟨go, 2, none⟩ (.slice E2 pl.length i2)) := Below.chg hb hch hb.size (by simp; omega)
  have hzc := hch.size
  clear hch
  generalize ((W7.setCell ⟨go, 0, none⟩ (.int .i64 n)).setCell ⟨go, 1, none⟩ (.slice E1 c3.length i1)).setCell ⟨go, 2, none⟩ (.slice E2 pl.length i2) = W8 at *
  have FZ' := Lib.hid (fresh_mono (B' := w.heap.size + 1 + 1) FZ.out (by have := hb.size; omega) (Nat.le_refl _))
  clear FZ; have FZ := FZ'; clear FZ'
  have OP : OwTheatre W8 (SZ ++ SK3) (.slice E1 c3.length i1) (.slice E2 pl.length i2) (.slice B3 ds.length k3) c3 pl ds := ⟨_, _, rfl, OZ.out, OK3.out⟩
  have FQ := Lib.hid (fresh_join FZ.out FK3.out (fun x hx hx' => HJZ.out x hx (by rw [eK]; exact List.mem_append_right _ hx')))
  have DQ : Hid (∀ x ∈ SZ ++ SK3, x ∉ [w.heap.size, w.heap.size + 1, go, gp, gq]) := (fun x hx => (List.mem_append.1 hx).elim (DZ.out x) (DK3.out x))
  have OQ := Lib.hid (OP)
  clear OZ FZ DZ OK3 FK3 DK3
  obtain ⟨SQ, hSQ⟩ : ∃ T, SZ ++ SK3 = T := ⟨_, rfl⟩
  rw [hSQ] at OQ FQ DQ
  clear hSQ
  clear OP
  cases b1
  · skip
    have c0 := (Lc 0 _ rfl).1
    have c1 := (Lc 1 _ rfl).1
    have c2 := (Lc 2 _ rfl).1
    have c3 := (Lc 3 _ rfl).1
    have c4 := (Lc 4 _ rfl).1
    have o0 := (Lo 0 _ rfl).1
    have o1 := (Lo 1 _ rfl).1
    have o2 := (Lo 2 _ rfl).1
    have o3 := (Lo 3 _ rfl).1
    have o4 := (Lo 4 _ rfl).1
    go_wp2_with fail
    refine (becomes_eq (B := w.heap.size + 1 + 1) (S := SQ) Hres.out (h.below hb) hsz OQ.out FQ.out (by have := hb.size; omega)).mono ?_
    rintro e W9 ⟨z1, z2, z3, T, rfl, owr, fr, q⟩
    clear c0 c1 c2 c3 c4 o0 o1 o2 o3 o4
    obtain ⟨⟨Z1, e1, rfl⟩, ⟨Z2, e2, rfl⟩, ⟨Z3, e3, rfl⟩⟩ := owr.rd.forms
    have hzq : W8.heap.size ≤ W9.heap.size := by have := q.size; (try simp at this); omega
    replace Lc := Lc.below q
    replace Lr := Lr.below q
    replace Lo := Lo.below q
    replace Lp := Lp.below q
    replace Lq := Lq.below q
    have OQ' := Lib.hid (OQ.out.below q)
    clear OQ; have OQ := OQ'; clear OQ'
    have FQ' := Lib.hid (fresh_mono (w' := W9) FQ.out (Nat.le_refl _) hzq)
    clear FQ; have FQ := FQ'; clear FQ'
    replace hb : Below w.heap.size w W9 := hb.trans (q.mono hb.size)
    clear q
    have FR := Lib.hid fr
    have OR := Lib.hid owr
    clear fr owr Hres
    have r0 := (Lr 0 _ rfl).1
    have rf0 := (Lr 0 _ rfl).2
    have r1 := (Lr 1 _ rfl).1
    have rf1 := (Lr 1 _ rfl).2
    have r2 := (Lr 2 _ rfl).1
    have rf2 := (Lr 2 _ rfl).2
    have r3 := (Lr 3 _ rfl).1
    have rf3 := (Lr 3 _ rfl).2
    have r4 := (Lr 4 _ rfl).1
    have rf4 := (Lr 4 _ rfl).2
    go_wp2_with fail
    refine bodyPost_ret (v := .tuple #[.agg #[.int .i64 rn, .slice Z1 rcs.length e1, .slice Z2 rpl.length e2, .slice Z3 rds.length e3, .int .i64 rm], .bool rb]) (by simp [results, Try.results36, go_sem, *]) rfl ⟨_, _, _, T, rfl, ?_, ?_, ?_⟩
    · exact OR.out.chg (T := [w.heap.size + 1]) (by repeat' (first | (with_reducible exact Chg.refl _ _) | (with_reducible refine chg_set ?_ (by simp)))) (fun x hx hx' => by have := (FR.out.2 x hx).1; simp at hx'; omega)
    · exact fresh_mono FR.out (by omega) (by simp)
    · exact Below.chg hb (S := [w.heap.size + 1]) (by repeat' (first | (with_reducible exact Chg.refl _ _) | (with_reducible refine chg_set ?_ (by simp)))) hb.size (fun x hx => by simp at hx; omega)
  · skip
    have c0 := (Lc 0 _ rfl).1
    have c1 := (Lc 1 _ rfl).1
    have c2 := (Lc 2 _ rfl).1
    have c3 := (Lc 3 _ rfl).1
    have c4 := (Lc 4 _ rfl).1
    have o0 := (Lo 0 _ rfl).1
    have o1 := (Lo 1 _ rfl).1
    have o2 := (Lo 2 _ rfl).1
    have o3 := (Lo 3 _ rfl).1
    have o4 := (Lo 4 _ rfl).1
    go_wp2_with fail
    refine (becomes_eq (B := w.heap.size + 1 + 1) (S := SQ) Hres.out (h.below hb) hsz OQ.out FQ.out (by have := hb.size; omega)).mono ?_
    rintro e W9 ⟨z1, z2, z3, T, rfl, owr, fr, q⟩
    clear c0 c1 c2 c3 c4 o0 o1 o2 o3 o4
    obtain ⟨⟨Z1, e1, rfl⟩, ⟨Z2, e2, rfl⟩, ⟨Z3, e3, rfl⟩⟩ := owr.rd.forms
    have hzq : W8.heap.size ≤ W9.heap.size := by have := q.size; (try simp at this); omega
    replace Lc := Lc.below q
    replace Lr := Lr.below q
    replace Lo := Lo.below q
    replace Lp := Lp.below q
    replace Lq := Lq.below q
    have OQ' := Lib.hid (OQ.out.below q)
    clear OQ; have OQ := OQ'; clear OQ'
    have FQ' := Lib.hid (fresh_mono (w' := W9) FQ.out (Nat.le_refl _) hzq)
    clear FQ; have FQ := FQ'; clear FQ'
    replace hb : Below w.heap.size w W9 := hb.trans (q.mono hb.size)
    clear q
    have FR := Lib.hid fr
    have OR := Lib.hid owr
    clear fr owr Hres
    have r0 := (Lr 0 _ rfl).1
    have rf0 := (Lr 0 _ rfl).2
    have r1 := (Lr 1 _ rfl).1
    have rf1 := (Lr 1 _ rfl).2
    have r2 := (Lr 2 _ rfl).1
    have rf2 := (Lr 2 _ rfl).2
    have r3 := (Lr 3 _ rfl).1
    have rf3 := (Lr 3 _ rfl).2
    have r4 := (Lr 4 _ rfl).1
    have rf4 := (Lr 4 _ rfl).2
    go_wp2_with fail
    refine bodyPost_ret (v := .tuple #[.agg #[.int .i64 rn, .slice Z1 rcs.length e1, .slice Z2 rpl.length e2, .slice Z3 rds.length e3, .int .i64 rm], .bool rb]) (by simp [results, Try.results36, go_sem, *]) rfl ⟨_, _, _, T, rfl, ?_, ?_, ?_⟩
    · exact OR.out.chg (T := [w.heap.size + 1]) (by repeat' (first | (with_reducible exact Chg.refl _ _) | (with_reducible refine chg_set ?_ (by simp)))) (fun x hx hx' => by have := (FR.out.2 x hx).1; simp at hx'; omega)
    · exact fresh_mono FR.out (by omega) (by simp)
    · exact Below.chg hb (S := [w.heap.size + 1]) (by repeat' (first | (with_reducible exact Chg.refl _ _) | (with_reducible refine chg_set ?_ (by simp)))) hb.size (fun x hx => by simp at hx; omega)
set_option maxHeartbeats 8000000 in
set_option maxRecDepth 100000 in
theorem specPutInOrder_any (n m : Int) (v1 v2 v3 : Value) (cs : List RCross) (pl : List RPl) (ds : List Int) (w : World) (h : RdTheatre w v1 v2 v3 cs pl ds) (hsz : szTheatre cs pl ds ≤ 1048576) :
    Calls Try.prog 35 #[.agg #[.int .i64 n, v1, v2, v3, .int .i64 m]] w (RetTh w.heap.size (putT ⟨n, m, cs, pl, ds⟩) w) := by
  obtain ⟨⟨A1, n1, rfl⟩, ⟨A2, n2, rfl⟩, ⟨A3, n3, rfl⟩⟩ := h.forms
  have hszc : szCompany cs pl ≤ 1048576 := by unfold szTheatre at hsz; omega
  have hs1 := go_sz n cs pl
  have hs2 := unt_sz n (goC n cs pl) pl
  unfold putT
  have HG : Hid (∀ W v1 v2, RdCompany W v1 v2 cs pl → Calls Try.prog 90 #[.agg #[.int .i64 n, v1, v2]] W (RetCompany n (goB n cs pl) (goC n cs pl) pl W)) := fun W v1 v2 hr => specGoHome_any n v1 v2 cs pl W hr (by omega)
  have HU : Hid (∀ W v1 v2, RdCompany W v1 v2 (goC n cs pl) pl → Calls Try.prog 24 #[.agg #[.int .i64 n, v1, v2]] W (RetCompany n (untB n (goC n cs pl) pl) (untC n (goC n cs pl) pl) pl W)) := fun W v1 v2 hr => specUntwist_any n v1 v2 (goC n cs pl) pl W hr (by omega)
  have HT : Hid (∀ W v1 v2, RdCompany W v1 v2 (untC n (goC n cs pl) pl) pl → Calls Try.prog 91 #[.agg #[.int .i64 n, v1, v2]] W (ToCompany n (putC n cs pl) pl W)) := fun W v1 v2 hr => specTidy_any n v1 v2 (untC n (goC n cs pl) pl) pl W hr (by omega)
  have HOK : Hid (theatreB n m cs pl ds = true → untB n (goC n cs pl) pl = true → theatreB n m (putC n cs pl) pl ds = true) := fun h h2 => put_ok h h2
  clear hs1 hs2
  generalize putC n cs pl = c3 at *
  generalize untC n (goC n cs pl) pl = c2 at *
  generalize untB n (goC n cs pl) pl = b2 at *
  generalize goC n cs pl = c1 at *
  generalize goB n cs pl = b1 at *
  go_enter Try.func35, Try.ntmps35
  go_wp2_with fail
  refine (l38Copy_any n m _ _ _ cs pl ds _ (h.below (by (repeat' (first | (with_reducible exact Below.refl _ _) | (with_reducible assumption) | (with_reducible refine Below.setCell ?_ (by first | omega | (simp; omega) | (simp; done)) _) | (with_reducible refine Below.alloc ?_ (by first | omega | (simp; omega) | (simp; done)) _) | (with_reducible refine Below.drew ?_) | (with_reducible refine below_drewN ?_ _))))) hsz).mono ?_
  rintro e W1 ⟨x1, x2, x3, S, rfl, ow, f1, q⟩
  obtain ⟨⟨B1, k1, rfl⟩, ⟨B2, k2, rfl⟩, ⟨B3, k3, rfl⟩⟩ := ow.rd.forms
  have Lc : Loc W1 (w.heap.size) [.int .i64 n, .slice A1 cs.length n1, .slice A2 pl.length n2, .slice A3 ds.length n3, .int .i64 m] := by have := ((Loc.new w #[.int .i64 n, .slice A1 cs.length n1, .slice A2 pl.length n2, .slice A3 ds.length n3, .int .i64 m] 58).alloc _).below q; simpa using this
  have Lr : Loc W1 (w.heap.size + 1) [.int .i64 0, .slice none 0 0, .slice none 0 0, .slice none 0 0, .int .i64 0] := by have := (Loc.new (w.alloc (.cells #[.int .i64 n, .slice A1 cs.length n1, .slice A2 pl.length n2, .slice A3 ds.length n3, .int .i64 m] 58)) #[.int .i64 0, .slice none 0 0, .slice none 0 0, .slice none 0 0, .int .i64 0] 58).below q; simpa using this
  have hb : Below w.heap.size w W1 := Below.trans (by (repeat' (first | (with_reducible exact Below.refl _ _) | (with_reducible assumption) | (with_reducible refine Below.setCell ?_ (by first | omega | (simp; omega) | (simp; done)) _) | (with_reducible refine Below.alloc ?_ (by first | omega | (simp; omega) | (simp; done)) _) | (with_reducible refine Below.drew ?_) | (with_reducible refine below_drewN ?_ _)))) (q.mono (by simp <;> omega))
  have hz0 : w.heap.size + 1 + 1 ≤ W1.heap.size := by have := q.size; simp at this; omega
  have hlow : w.heap.size + 1 + 1 ≤ (((w.alloc (.cells #[.int .i64 n, .slice A1 cs.length n1, .slice A2 pl.length n2, .slice A3 ds.length n3, .int .i64 m] 58)).alloc (.cells #[.int .i64 0, .slice none 0 0, .slice none 0 0, .slice none 0 0, .int .i64 0] 58))).heap.size := by first | exact Nat.le_refl _ | (simp; done) | (simp; omega) | omega
  have FK := Lib.hid (fresh_mono f1 hlow (Nat.le_refl _))
  have DK : Hid (∀ x ∈ S, x ∉ [w.heap.size, w.heap.size + 1]) := (fun x hx => by have := (FK.out.2 x hx).1; simp; omega)
  have OK := Lib.hid ow
  clear ow f1 hlow
  clear q
  go_upto_region 2 with (fail)
  replace Lc : Loc (W1.alloc (.cells #[.int .i64 n, .slice B1 cs.length k1, .slice B2 pl.length k2, .slice B3 ds.length k3, .int .i64 m] 58)) (w.heap.size) [.int .i64 n, .slice A1 cs.length n1, .slice A2 pl.length n2, .slice A3 ds.length n3, .int .i64 m] := Lc.alloc _
  replace Lr : Loc (W1.alloc (.cells #[.int .i64 n, .slice B1 cs.length k1, .slice B2 pl.length k2, .slice B3 ds.length k3, .int .i64 m] 58)) (w.heap.size + 1) [.int .i64 0, .slice none 0 0, .slice none 0 0, .slice none 0 0, .int .i64 0] := Lr.alloc _
  obtain ⟨go, hgo⟩ : ∃ g, W1.heap.size = g := ⟨_, rfl⟩
  have Lo : Loc (W1.alloc (.cells #[.int .i64 n, .slice B1 cs.length k1, .slice B2 pl.length k2, .slice B3 ds.length k3, .int .i64 m] 58)) W1.heap.size [.int .i64 n, .slice B1 cs.length k1, .slice B2 pl.length k2, .slice B3 ds.length k3, .int .i64 m] := Loc.new W1 #[.int .i64 n, .slice B1 cs.length k1, .slice B2 pl.length k2, .slice B3 ds.length k3, .int .i64 m] 58
  rw [hgo] at Lo
  have OK' := Lib.hid (OK.out.below (w' := (W1.alloc (.cells #[.int .i64 n, .slice B1 cs.length k1, .slice B2 pl.length k2, .slice B3 ds.length k3, .int .i64 m] 58))) ((Below.refl _ _).alloc (Nat.le_refl _) _))
  clear OK; have OK := OK'; clear OK'
  have DK' : Hid (∀ x ∈ S, x ∉ [w.heap.size, w.heap.size + 1, go]) := (fun x hx => by have := DK.out x hx; have := (FK.out.2 x hx).2; simp at *; omega)
  clear DK; have DK := DK'; clear DK'
  have FK' := Lib.hid (fresh_mono (w' := (W1.alloc (.cells #[.int .i64 n, .slice B1 cs.length k1, .slice B2 pl.length k2, .slice B3 ds.length k3, .int .i64 m] 58))) FK.out (Nat.le_refl _) (by simp))
  clear FK; have FK := FK'; clear FK'
  replace hb : Below w.heap.size w (W1.alloc (.cells #[.int .i64 n, .slice B1 cs.length k1, .slice B2 pl.length k2, .slice B3 ds.length k3, .int .i64 m] 58)) := hb.alloc hb.size _
  have hlto : go < (W1.alloc (.cells #[.int .i64 n, .slice B1 cs.length k1, .slice B2 pl.length k2, .slice B3 ds.length k3, .int .i64 m] 58)).heap.size := by simp; omega
  have hne_c_o : w.heap.size < go := by omega
  have hne_r_o : w.heap.size + 1 < go := by omega
  generalize W1.alloc (.cells #[.int .i64 n, .slice B1 cs.length k1, .slice B2 pl.length k2, .slice B3 ds.length k3, .int .i64 m] 58) = W2 at *
  rw [hgo]
  clear hgo
  have c0 := (Lc 0 _ rfl).1
  have c1 := (Lc 1 _ rfl).1
  have c2 := (Lc 2 _ rfl).1
  have c3 := (Lc 3 _ rfl).1
  have c4 := (Lc 4 _ rfl).1
  go_wp2_with fail
  refine twoB (specTheatreOk_any n m _ _ _ cs pl ds _ (h.below hb)) (fun W3 hq q => ?_) (fun W3 hq q => ?_)
  · skip
    clear c0 c1 c2 c3 c4
    have hzq : W2.heap.size ≤ W3.heap.size := by have := q.size; (try simp at this); omega
    replace Lc := Lc.below q
    replace Lr := Lr.below q
    replace Lo := Lo.below q
    have OK' := Lib.hid (OK.out.below q)
    clear OK; have OK := OK'; clear OK'
    have FK' := Lib.hid (fresh_mono (w' := W3) FK.out (Nat.le_refl _) hzq)
    clear FK; have FK := FK'; clear FK'
    replace hb : Below w.heap.size w W3 := hb.trans (q.mono hb.size)
    clear q
    have c0 := (Lc 0 _ rfl).1
    have c1 := (Lc 1 _ rfl).1
    have c2 := (Lc 2 _ rfl).1
    go_wp2_with fail
    refine (HG.out _ _ _ ((h.below hb).1)).mono ?_
    rintro e W4 ⟨x4, x5, SX, rfl, oX, fX, q⟩
    clear c0 c1 c2
    obtain ⟨⟨C1, l1, rfl⟩, ⟨C2, l2, rfl⟩⟩ := oX.rd.forms
    have hzq : W3.heap.size ≤ W4.heap.size := by have := q.size; (try simp at this); omega
    replace Lc := Lc.below q
    replace Lr := Lr.below q
    replace Lo := Lo.below q
    have OK' := Lib.hid (OK.out.below q)
    clear OK; have OK := OK'; clear OK'
    have FK' := Lib.hid (fresh_mono (w' := W4) FK.out (Nat.le_refl _) hzq)
    clear FK; have FK := FK'; clear FK'
    replace hb : Below w.heap.size w W4 := hb.trans (q.mono hb.size)
    have hlow : W3.heap.size ≤ W3.heap.size := by first | exact Nat.le_refl _ | (simp; done) | (simp; omega) | omega
    have FX := Lib.hid (fresh_mono fX hlow (Nat.le_refl _))
    have DX : Hid (∀ x ∈ SX, x ∉ [w.heap.size, w.heap.size + 1, go]) := (fun x hx => by have := (FX.out.2 x hx).1; simp; omega)
    have OX := Lib.hid oX
    clear oX fX hlow
    clear q
    go_upto_region 5 with (fail)
    replace Lc : Loc (W4.alloc (.cells #[.int .i64 n, .slice C1 c1.length l1, .slice C2 pl.length l2] 47)) (w.heap.size) [.int .i64 n, .slice A1 cs.length n1, .slice A2 pl.length n2, .slice A3 ds.length n3, .int .i64 m] := Lc.alloc _
    replace Lr : Loc (W4.alloc (.cells #[.int .i64 n, .slice C1 c1.length l1, .slice C2 pl.length l2] 47)) (w.heap.size + 1) [.int .i64 0, .slice none 0 0, .slice none 0 0, .slice none 0 0, .int .i64 0] := Lr.alloc _
    replace Lo : Loc (W4.alloc (.cells #[.int .i64 n, .slice C1 c1.length l1, .slice C2 pl.length l2] 47)) (go) [.int .i64 n, .slice B1 cs.length k1, .slice B2 pl.length k2, .slice B3 ds.length k3, .int .i64 m] := Lo.alloc _
    obtain ⟨gp, hgp⟩ : ∃ g, W4.heap.size = g := ⟨_, rfl⟩
    have Lp : Loc (W4.alloc (.cells #[.int .i64 n, .slice C1 c1.length l1, .slice C2 pl.length l2] 47)) W4.heap.size [.int .i64 n, .slice C1 c1.length l1, .slice C2 pl.length l2] := Loc.new W4 #[.int .i64 n, .slice C1 c1.length l1, .slice C2 pl.length l2] 47
    rw [hgp] at Lp
    have OK' := Lib.hid (OK.out.below (w' := (W4.alloc (.cells #[.int .i64 n, .slice C1 c1.length l1, .slice C2 pl.length l2] 47))) ((Below.refl _ _).alloc (Nat.le_refl _) _))
    clear OK; have OK := OK'; clear OK'
    have OX' := Lib.hid (OX.out.below (w' := (W4.alloc (.cells #[.int .i64 n, .slice C1 c1.length l1, .slice C2 pl.length l2] 47))) ((Below.refl _ _).alloc (Nat.le_refl _) _))
    clear OX; have OX := OX'; clear OX'
    have DK' : Hid (∀ x ∈ S, x ∉ [w.heap.size, w.heap.size + 1, go, gp]) := (fun x hx => by have := DK.out x hx; have := (FK.out.2 x hx).2; simp at *; omega)
    clear DK; have DK := DK'; clear DK'
    have FK' := Lib.hid (fresh_mono (w' := (W4.alloc (.cells #[.int .i64 n, .slice C1 c1.length l1, .slice C2 pl.length l2] 47))) FK.out (Nat.le_refl _) (by simp))
    clear FK; have FK := FK'; clear FK'
    have DX' : Hid (∀ x ∈ SX, x ∉ [w.heap.size, w.heap.size + 1, go, gp]) := (fun x hx => by have := DX.out x hx; have := (FX.out.2 x hx).2; simp at *; omega)
    clear DX; have DX := DX'; clear DX'
    have FX' := Lib.hid (fresh_mono (w' := (W4.alloc (.cells #[.int .i64 n, .slice C1 c1.length l1, .slice C2 pl.length l2] 47))) FX.out (Nat.le_refl _) (by simp))
    clear FX; have FX := FX'; clear FX'
    replace hb : Below w.heap.size w (W4.alloc (.cells #[.int .i64 n, .slice C1 c1.length l1, .slice C2 pl.length l2] 47)) := hb.alloc hb.size _
    have hltp : gp < (W4.alloc (.cells #[.int .i64 n, .slice C1 c1.length l1, .slice C2 pl.length l2] 47)).heap.size := by simp; omega
    have hne_c_p : w.heap.size < gp := by omega
    have hne_r_p : w.heap.size + 1 < gp := by omega
    have hne_o_p : go < gp := by omega
    generalize W4.alloc (.cells #[.int .i64 n, .slice C1 c1.length l1, .slice C2 pl.length l2] 47) = W5 at *
    rw [hgp]
    clear hgp
    have p0 := (Lp 0 _ rfl).1
    have p1 := (Lp 1 _ rfl).1
    have p2 := (Lp 2 _ rfl).1
    go_wp2_with fail
    refine (HU.out _ _ _ (OX.out.rd)).mono ?_
    rintro e W6 ⟨y4, y5, SY, rfl, oY, fY, q⟩
    clear p0 p1 p2
    obtain ⟨⟨D1, j1, rfl⟩, ⟨D2, j2, rfl⟩⟩ := oY.rd.forms
    have hzq : W5.heap.size ≤ W6.heap.size := by have := q.size; (try simp at this); omega
    replace Lc := Lc.below q
    replace Lr := Lr.below q
    replace Lo := Lo.below q
    replace Lp := Lp.below q
    have OK' := Lib.hid (OK.out.below q)
    clear OK; have OK := OK'; clear OK'
    have FK' := Lib.hid (fresh_mono (w' := W6) FK.out (Nat.le_refl _) hzq)
    clear FK; have FK := FK'; clear FK'
    have OX' := Lib.hid (OX.out.below q)
    clear OX; have OX := OX'; clear OX'
    have FX' := Lib.hid (fresh_mono (w' := W6) FX.out (Nat.le_refl _) hzq)
    clear FX; have FX := FX'; clear FX'
    replace hb : Below w.heap.size w W6 := hb.trans (q.mono hb.size)
    have hlow : W5.heap.size ≤ W5.heap.size := by first | exact Nat.le_refl _ | (simp; done) | (simp; omega) | omega
    have FY := Lib.hid (fresh_mono fY hlow (Nat.le_refl _))
    have DY : Hid (∀ x ∈ SY, x ∉ [w.heap.size, w.heap.size + 1, go, gp]) := (fun x hx => by have := (FY.out.2 x hx).1; simp; omega)
    have OY := Lib.hid oY
    clear oY fY hlow
    clear q
    clear OX FX DX
    go_upto_region 6 with (fail)
    replace Lc : Loc (W6.alloc (.cells #[.int .i64 n, .slice D1 c2.length j1, .slice D2 pl.length j2] 47)) (w.heap.size) [.int .i64 n, .slice A1 cs.length n1, .slice A2 pl.length n2, .slice A3 ds.length n3, .int .i64 m] := Lc.alloc _
    replace Lr : Loc (W6.alloc (.cells #[.int .i64 n, .slice D1 c2.length j1, .slice D2 pl.length j2] 47)) (w.heap.size + 1) [.int .i64 0, .slice none 0 0, .slice none 0 0, .slice none 0 0, .int .i64 0] := Lr.alloc _
    replace Lo : Loc (W6.alloc (.cells #[.int .i64 n, .slice D1 c2.length j1, .slice D2 pl.length j2] 47)) (go) [.int .i64 n, .slice B1 cs.length k1, .slice B2 pl.length k2, .slice B3 ds.length k3, .int .i64 m] := Lo.alloc _
    replace Lp : Loc (W6.alloc (.cells #[.int .i64 n, .slice D1 c2.length j1, .slice D2 pl.length j2] 47)) (gp) [.int .i64 n, .slice C1 c1.length l1, .slice C2 pl.length l2] := Lp.alloc _
    obtain ⟨gq, hgq⟩ : ∃ g, W6.heap.size = g := ⟨_, rfl⟩
    have Lq : Loc (W6.alloc (.cells #[.int .i64 n, .slice D1 c2.length j1, .slice D2 pl.length j2] 47)) W6.heap.size [.int .i64 n, .slice D1 c2.length j1, .slice D2 pl.length j2] := Loc.new W6 #[.int .i64 n, .slice D1 c2.length j1, .slice D2 pl.length j2] 47
    rw [hgq] at Lq
    have OK' := Lib.hid (OK.out.below (w' := (W6.alloc (.cells #[.int .i64 n, .slice D1 c2.length j1, .slice D2 pl.length j2] 47))) ((Below.refl _ _).alloc (Nat.le_refl _) _))
    clear OK; have OK := OK'; clear OK'
    have OY' := Lib.hid (OY.out.below (w' := (W6.alloc (.cells #[.int .i64 n, .slice D1 c2.length j1, .slice D2 pl.length j2] 47))) ((Below.refl _ _).alloc (Nat.le_refl _) _))
    clear OY; have OY := OY'; clear OY'
    have DK' : Hid (∀ x ∈ S, x ∉ [w.heap.size, w.heap.size + 1, go, gp, gq]) := (fun x hx => by have := DK.out x hx; have := (FK.out.2 x hx).2; simp at *; omega)
    clear DK; have DK := DK'; clear DK'
    have FK' := Lib.hid (fresh_mono (w' := (W6.alloc (.cells #[.int .i64 n, .slice D1 c2.length j1, .slice D2 pl.length j2] 47))) FK.out (Nat.le_refl _) (by simp))
    clear FK; have FK := FK'; clear FK'
    have DY' : Hid (∀ x ∈ SY, x ∉ [w.heap.size, w.heap.size + 1, go, gp, gq]) := (fun x hx => by have := DY.out x hx; have := (FY.out.2 x hx).2; simp at *; omega)
    clear DY; have DY := DY'; clear DY'
    have FY' := Lib.hid (fresh_mono (w' := (W6.alloc (.cells #[.int .i64 n, .slice D1 c2.length j1, .slice D2 pl.length j2] 47))) FY.out (Nat.le_refl _) (by simp))
    clear FY; have FY := FY'; clear FY'
    replace hb : Below w.heap.size w (W6.alloc (.cells #[.int .i64 n, .slice D1 c2.length j1, .slice D2 pl.length j2] 47)) := hb.alloc hb.size _
    have hltq : gq < (W6.alloc (.cells #[.int .i64 n, .slice D1 c2.length j1, .slice D2 pl.length j2] 47)).heap.size := by simp; omega
    have hne_c_q : w.heap.size < gq := by omega
    have hne_r_q : w.heap.size + 1 < gq := by omega
    have hne_o_q : go < gq := by omega
    have hne_p_q : gp < gq := by omega
    generalize W6.alloc (.cells #[.int .i64 n, .slice D1 c2.length j1, .slice D2 pl.length j2] 47) = W7 at *
    rw [hgq]
    clear hgq
    cases b1
    · skip
      have o0 := (Lo 0 _ rfl).1
      have o1 := (Lo 1 _ rfl).1
      have o2 := (Lo 2 _ rfl).1
      have o3 := (Lo 3 _ rfl).1
      have o4 := (Lo 4 _ rfl).1
      have r0 := (Lr 0 _ rfl).1
      have rf0 := (Lr 0 _ rfl).2
      have r1 := (Lr 1 _ rfl).1
      have rf1 := (Lr 1 _ rfl).2
      have r2 := (Lr 2 _ rfl).1
      have rf2 := (Lr 2 _ rfl).2
      have r3 := (Lr 3 _ rfl).1
      have rf3 := (Lr 3 _ rfl).2
      have r4 := (Lr 4 _ rfl).1
      have rf4 := (Lr 4 _ rfl).2
      go_wp2_with fail
      refine bodyPost_ret (v := .tuple #[.agg #[.int .i64 n, .slice B1 cs.length k1, .slice B2 pl.length k2, .slice B3 ds.length k3, .int .i64 m], .bool false]) (by simp [results, Try.results35, go_sem, *]) rfl (bec_f (by simp) ⟨_, _, _, S, rfl, ?_, ?_, ?_⟩)
      · exact OK.out.chg (T := [w.heap.size + 1]) (by repeat' (first | (with_reducible exact Chg.refl _ _) | (with_reducible refine chg_set ?_ (by simp)))) (fun x hx hx' => DK.out x hx (by simp at hx'; subst hx'; simp))
      · exact fresh_mono FK.out (by omega) (by simp)
      · exact Below.chg hb (S := [w.heap.size + 1]) (by repeat' (first | (with_reducible exact Chg.refl _ _) | (with_reducible refine chg_set ?_ (by simp)))) hb.size (fun x hx => by simp at hx; omega)
    · skip
      cases b2
      · skip
        have o0 := (Lo 0 _ rfl).1
        have o1 := (Lo 1 _ rfl).1
        have o2 := (Lo 2 _ rfl).1
        have o3 := (Lo 3 _ rfl).1
        have o4 := (Lo 4 _ rfl).1
        have r0 := (Lr 0 _ rfl).1
        have rf0 := (Lr 0 _ rfl).2
        have r1 := (Lr 1 _ rfl).1
        have rf1 := (Lr 1 _ rfl).2
        have r2 := (Lr 2 _ rfl).1
        have rf2 := (Lr 2 _ rfl).2
        have r3 := (Lr 3 _ rfl).1
        have rf3 := (Lr 3 _ rfl).2
        have r4 := (Lr 4 _ rfl).1
        have rf4 := (Lr 4 _ rfl).2
        go_wp2_with fail
        refine bodyPost_ret (v := .tuple #[.agg #[.int .i64 n, .slice B1 cs.length k1, .slice B2 pl.length k2, .slice B3 ds.length k3, .int .i64 m], .bool false]) (by simp [results, Try.results35, go_sem, *]) rfl (bec_f (by simp) ⟨_, _, _, S, rfl, ?_, ?_, ?_⟩)
        · exact OK.out.chg (T := [w.heap.size + 1]) (by repeat' (first | (with_reducible exact Chg.refl _ _) | (with_reducible refine chg_set ?_ (by simp)))) (fun x hx hx' => DK.out x hx (by simp at hx'; subst hx'; simp))
        · exact fresh_mono FK.out (by omega) (by simp)
        · exact Below.chg hb (S := [w.heap.size + 1]) (by repeat' (first | (with_reducible exact Chg.refl _ _) | (with_reducible refine chg_set ?_ (by simp)))) hb.size (fun x hx => by simp at hx; omega)
      · skip
        go_upto_region 8 with (fail)
        have q0 := (Lq 0 _ rfl).1
        have q1 := (Lq 1 _ rfl).1
        have q2 := (Lq 2 _ rfl).1
        have hU : ∀ x ∈ S, x < W7.heap.size := fun x hx => (FK.out.2 x hx).2
        go_wp2_with fail
        refine (HT.out _ _ _ (OY.out.rd)).mono ?_
        rintro e W8 ⟨z4, z5, SZ, rfl, oZ, fZ, q⟩
        clear q0 q1 q2
        obtain ⟨⟨E1, i1, rfl⟩, ⟨E2, i2, rfl⟩⟩ := oZ.rd.forms
        have hzq : W7.heap.size ≤ W8.heap.size := by have := q.size; (try simp at this); omega
        replace Lc := Lc.below q
        replace Lr := Lr.below q
        replace Lo := Lo.below q
        replace Lp := Lp.below q
        replace Lq := Lq.below q
        have OK' := Lib.hid (OK.out.below q)
        clear OK; have OK := OK'; clear OK'
        have FK' := Lib.hid (fresh_mono (w' := W8) FK.out (Nat.le_refl _) hzq)
        clear FK; have FK := FK'; clear FK'
        have OY' := Lib.hid (OY.out.below q)
        clear OY; have OY := OY'; clear OY'
        have FY' := Lib.hid (fresh_mono (w' := W8) FY.out (Nat.le_refl _) hzq)
        clear FY; have FY := FY'; clear FY'
        replace hb : Below w.heap.size w W8 := hb.trans (q.mono hb.size)
        have hlow : W7.heap.size ≤ W7.heap.size := by first | exact Nat.le_refl _ | (simp; done) | (simp; omega) | omega
        have FZ := Lib.hid (fresh_mono fZ hlow (Nat.le_refl _))
        have DZ : Hid (∀ x ∈ SZ, x ∉ [w.heap.size, w.heap.size + 1, go, gp, gq]) := (fun x hx => by have := (FZ.out.2 x hx).1; simp; omega)
        have OZ := Lib.hid oZ
        clear oZ fZ hlow
        clear q
        clear OY FY DY
        have HJZ : Hid (∀ x ∈ SZ, x ∉ S) := (fun x hx hx' => by have := (FZ.out.2 x hx).1; have := hU x hx'; omega)
        clear hU
        obtain ⟨SK1, SK3, eK, oK, pK⟩ := OK.out
        have FKx := FK.out
        have DKx := DK.out
        rw [eK] at FKx DKx
        have OK1 := Lib.hid oK
        have OK3 := Lib.hid pK
        have FK1 := Lib.hid (fresh_left FKx)
        have FK3 := Lib.hid (fresh_right FKx)
        have DK1 : Hid (∀ x ∈ SK1, x ∉ [w.heap.size, w.heap.size + 1, go, gp, gq]) := (fun x hx => DKx x (List.mem_append_left _ hx))
        have DK3 : Hid (∀ x ∈ SK3, x ∉ [w.heap.size, w.heap.size + 1, go, gp, gq]) := (fun x hx => DKx x (List.mem_append_right _ hx))
        have JK : Hid (∀ x ∈ SK1, x ∉ SK3) := (nodup2 FKx.1).2.2.1
        clear OK FK DK FKx DKx oK pK
        clear OK1 FK1 DK1
        have o0 := (Lo 0 _ rfl).1
        have of0 := (Lo 0 _ rfl).2
        have o1 := (Lo 1 _ rfl).1
        have of1 := (Lo 1 _ rfl).2
        have o2 := (Lo 2 _ rfl).1
        have of2 := (Lo 2 _ rfl).2
        have o3 := (Lo 3 _ rfl).1
        have of3 := (Lo 3 _ rfl).2
        have o4 := (Lo 4 _ rfl).1
        have of4 := (Lo 4 _ rfl).2
        go_upto_region 9 with (fail)
        clear o0 of0 o1 of1 o2 of2 o3 of3 o4 of4
        replace Lc : Loc (W8.setCell ⟨go, 0, none⟩ (.int .i64 n)) (w.heap.size) [.int .i64 n, .slice A1 cs.length n1, .slice A2 pl.length n2, .slice A3 ds.length n3, .int .i64 m] := Lc.far (g := go) (i := 0) (u := .int .i64 n) (by omega)
        replace Lr : Loc (W8.setCell ⟨go, 0, none⟩ (.int .i64 n)) (w.heap.size + 1) [.int .i64 0, .slice none 0 0, .slice none 0 0, .slice none 0 0, .int .i64 0] := Lr.far (g := go) (i := 0) (u := .int .i64 n) (by omega)
        replace Lp : Loc (W8.setCell ⟨go, 0, none⟩ (.int .i64 n)) (gp) [.int .i64 n, .slice C1 c1.length l1, .slice C2 pl.length l2] := Lp.far (g := go) (i := 0) (u := .int .i64 n) (by omega)
        replace Lq : Loc (W8.setCell ⟨go, 0, none⟩ (.int .i64 n)) (gq) [.int .i64 n, .slice D1 c2.length j1, .slice D2 pl.length j2] := Lq.far (g := go) (i := 0) (u := .int .i64 n) (by omega)
        replace Lo : Loc (W8.setCell ⟨go, 0, none⟩ (.int .i64 n)) (go) [.int .i64 n, .slice B1 cs.length k1, .slice B2 pl.length k2, .slice B3 ds.length k3, .int .i64 m] := Lo.set (i := 0) (v := .int .i64 n) rfl
        have hch : Chg [go] W8 (W8.setCell ⟨go, 0, none⟩ (.int .i64 n)) := chg_set (Chg.refl _ _) (by simp)
        have OZ' := Lib.hid (OZ.out.chg hch (fun x hx hx' => DZ.out x hx (by simp at hx'; subst hx'; simp)))
        clear OZ; have OZ := OZ'; clear OZ'
        have FZ' := Lib.hid (fresh_mono (w' := (W8.setCell ⟨go, 0, none⟩ (.int .i64 n))) FZ.out (Nat.le_refl _) hch.size)
        clear FZ; have FZ := FZ'; clear FZ'
        have OK3' := Lib.hid (OK3.out.chg hch (fun x hx hx' => DK3.out x hx (by simp at hx'; subst hx'; simp)))
        clear OK3; have OK3 := OK3'; clear OK3'
        have FK3' := Lib.hid (fresh_mono (w' := (W8.setCell ⟨go, 0, none⟩ (.int .i64 n))) FK3.out (Nat.le_refl _) hch.size)
        clear FK3; have FK3 := FK3'; clear FK3'
        replace hb : Below w.heap.size w (W8.setCell ⟨go, 0, none⟩ (.int .i64 n)) := Below.chg hb hch hb.size (by simp; omega)
        have hzc := hch.size
        clear hch
        replace Lc : Loc ((W8.setCell ⟨go, 0, none⟩ (.int .i64 n)).setCell ⟨go, 1, none⟩ (.slice E1 c3.length i1)) (w.heap.size) [.int .i64 n, .slice A1 cs.length n1, .slice A2 pl.length n2, .slice A3 ds.length n3, .int .i64 m] := Lc.far (g := go) (i := 1) (u := .slice E1 c3.length i1) (by omega)
        replace Lr : Loc ((W8.setCell ⟨go, 0, none⟩ (.int .i64 n)).setCell ⟨go, 1, none⟩ (.slice E1 c3.length i1)) (w.heap.size + 1) [.int .i64 0, .slice none 0 0, .slice none 0 0, .slice none 0 0, .int .i64 0] := Lr.far (g := go) (i := 1) (u := .slice E1 c3.length i1) (by omega)
        replace Lp : Loc ((W8.setCell ⟨go, 0, none⟩ (.int .i64 n)).setCell ⟨go, 1, none⟩ (.slice E1 c3.length i1)) (gp) [.int .i64 n, .slice C1 c1.length l1, .slice C2 pl.length l2] := Lp.far (g := go) (i := 1) (u := .slice E1 c3.length i1) (by omega)
        replace Lq : Loc ((W8.setCell ⟨go, 0, none⟩ (.int .i64 n)).setCell ⟨go, 1, none⟩ (.slice E1 c3.length i1)) (gq) [.int .i64 n, .slice D1 c2.length j1, .slice D2 pl.length j2] := Lq.far (g := go) (i := 1) (u := .slice E1 c3.length i1) (by omega)
        replace Lo : Loc ((W8.setCell ⟨go, 0, none⟩ (.int .i64 n)).setCell ⟨go, 1, none⟩ (.slice E1 c3.length i1)) (go) [.int .i64 n, .slice E1 c3.length i1, .slice B2 pl.length k2, .slice B3 ds.length k3, .int .i64 m] := Lo.set (i := 1) (v := .slice B1 cs.length k1) rfl
        have hch : Chg [go] (W8.setCell ⟨go, 0, none⟩ (.int .i64 n)) ((W8.setCell ⟨go, 0, none⟩ (.int .i64 n)).setCell ⟨go, 1, none⟩ (.slice E1 c3.length i1)) := chg_set (Chg.refl _ _) (by simp)
        have OZ' := Lib.hid (OZ.out.chg hch (fun x hx hx' => DZ.out x hx (by simp at hx'; subst hx'; simp)))
        clear OZ; have OZ := OZ'; clear OZ'
        have FZ' := Lib.hid (fresh_mono (w' := ((W8.setCell ⟨go, 0, none⟩ (.int .i64 n)).setCell ⟨go, 1, none⟩ (.slice E1 c3.length i1))) FZ.out (Nat.le_refl _) hch.size)
        clear FZ; have FZ := FZ'; clear FZ'
        have OK3' := Lib.hid (OK3.out.chg hch (fun x hx hx' => DK3.out x hx (by simp at hx'; subst hx'; simp)))
        clear OK3; have OK3 := OK3'; clear OK3'
        have FK3' := Lib.hid (fresh_mono (w' := ((W8.setCell ⟨go, 0, none⟩ (.int .i64 n)).setCell ⟨go, 1, none⟩ (.slice E1 c3.length i1))) FK3.out (Nat.le_refl _) hch.size)
        clear FK3; have FK3 := FK3'; clear FK3'
        replace hb : Below w.heap.size w ((W8.setCell ⟨go, 0, none⟩ (.int .i64 n)).setCell ⟨go, 1, none⟩ (.slice E1 c3.length i1)) := Below.chg hb hch hb.size (by simp; omega)
        have hzc := hch.size
        clear hch
        replace Lc : Loc (((W8.setCell ⟨go, 0, none⟩ (.int .i64 n)).setCell ⟨go, 1, none⟩ (.slice E1 c3.length i1)).setCell ⟨go, 2, none⟩ (.slice E2 pl.length i2)) (w.heap.size) [.int .i64 n, .slice A1 cs.length n1, .slice A2 pl.length n2, .slice A3 ds.length n3, .int .i64 m] := Lc.far (g := go) (i := 2) (u := .slice E2 pl.length i2) (by omega)
        replace Lr : Loc (((W8.setCell ⟨go, 0, none⟩ (.int .i64 n)).setCell ⟨go, 1, none⟩ (.slice E1 c3.length i1)).setCell ⟨go, 2, none⟩ (.slice E2 pl.length i2)) (w.heap.size + 1) [.int .i64 0, .slice none 0 0, .slice none 0 0, .slice none 0 0, .int .i64 0] := Lr.far (g := go) (i := 2) (u := .slice E2 pl.length i2) (by omega)
        replace Lp : Loc (((W8.setCell ⟨go, 0, none⟩ (.int .i64 n)).setCell ⟨go, 1, none⟩ (.slice E1 c3.length i1)).setCell ⟨go, 2, none⟩ (.slice E2 pl.length i2)) (gp) [.int .i64 n, .slice C1 c1.length l1, .slice C2 pl.length l2] := Lp.far (g := go) (i := 2) (u := .slice E2 pl.length i2) (by omega)
        replace Lq : Loc (((W8.setCell ⟨go, 0, none⟩ (.int .i64 n)).setCell ⟨go, 1, none⟩ (.slice E1 c3.length i1)).setCell ⟨go, 2, none⟩ (.slice E2 pl.length i2)) (gq) [.int .i64 n, .slice D1 c2.length j1, .slice D2 pl.length j2] := Lq.far (g := go) (i := 2) (u := .slice E2 pl.length i2) (by omega)
        replace Lo : Loc (((W8.setCell ⟨go, 0, none⟩ (.int .i64 n)).setCell ⟨go, 1, none⟩ (.slice E1 c3.length i1)).setCell ⟨go, 2, none⟩ (.slice E2 pl.length i2)) (go) [.int .i64 n, .slice E1 c3.length i1, .slice E2 pl.length i2, .slice B3 ds.length k3, .int .i64 m] := Lo.set (i := 2) (v := .slice B2 pl.length k2) rfl
        have hch : Chg [go] ((W8.setCell ⟨go, 0, none⟩ (.int .i64 n)).setCell ⟨go, 1, none⟩ (.slice E1 c3.length i1)) (((W8.setCell ⟨go, 0, none⟩ (.int .i64 n)).setCell ⟨go, 1, none⟩ (.slice E1 c3.length i1)).setCell ⟨go, 2, none⟩ (.slice E2 pl.length i2)) := chg_set (Chg.refl _ _) (by simp)
        have OZ' := Lib.hid (OZ.out.chg hch (fun x hx hx' => DZ.out x hx (by simp at hx'; subst hx'; simp)))
        clear OZ; have OZ := OZ'; clear OZ'
        have FZ' := Lib.hid (fresh_mono (w' := (((W8.setCell ⟨go, 0, none⟩ (.int .i64 n)).setCell ⟨go, 1, none⟩ (.slice E1 c3.length i1)).setCell ⟨go, 2, none⟩ (.slice E2 pl.length i2))) FZ.out (Nat.le_refl _) hch.size)
        clear FZ; have FZ := FZ'; clear FZ'
        have OK3' := Lib.hid (OK3.out.chg hch (fun x hx hx' => DK3.out x hx (by simp at hx'; subst hx'; simp)))
        clear OK3; have OK3 := OK3'; clear OK3'
        have FK3' := Lib.hid (fresh_mono (w' := (((W8.setCell ⟨go, 0, none⟩ (.int .i64 n)).setCell ⟨go, 1, none⟩ (.slice E1 c3.length i1)).setCell ⟨go, 2, none⟩ (.slice E2 pl.length i2))) FK3.out (Nat.le_refl _) hch.size)
        clear FK3; have FK3 := FK3'; clear FK3'
        replace hb : Below w.heap.size w (((W8.setCell ⟨go, 0, none⟩ (.int .i64 n)).setCell ⟨go, 1, none⟩ (.slice E1 c3.length i1)).setCell ⟨go, 2, none⟩ (.slice E2 pl.length i2)) := Below.chg hb hch hb.size (by simp; omega)
        have hzc := hch.size
        clear hch
        generalize ((W8.setCell ⟨go, 0, none⟩ (.int .i64 n)).setCell ⟨go, 1, none⟩ (.slice E1 c3.length i1)).setCell ⟨go, 2, none⟩ (.slice E2 pl.length i2) = W9 at *
        have FZ' := Lib.hid (fresh_mono (B' := w.heap.size + 1 + 1) FZ.out (by have := hb.size; omega) (Nat.le_refl _))
        clear FZ; have FZ := FZ'; clear FZ'
        have OP : OwTheatre W9 (SZ ++ SK3) (.slice E1 c3.length i1) (.slice E2 pl.length i2) (.slice B3 ds.length k3) c3 pl ds := ⟨_, _, rfl, OZ.out, OK3.out⟩
        have FQ := Lib.hid (fresh_join FZ.out FK3.out (fun x hx hx' => HJZ.out x hx (by rw [eK]; exact List.mem_append_right _ hx')))
        have DQ : Hid (∀ x ∈ SZ ++ SK3, x ∉ [w.heap.size, w.heap.size + 1, go, gp, gq]) := (fun x hx => (List.mem_append.1 hx).elim (DZ.out x) (DK3.out x))
        have OQ := Lib.hid (OP)
        clear OZ FZ DZ OK3 FK3 DK3
        obtain ⟨SQ, hSQ⟩ : ∃ T, SZ ++ SK3 = T := ⟨_, rfl⟩
        rw [hSQ] at OQ FQ DQ
        clear hSQ
        clear OP
        have o0 := (Lo 0 _ rfl).1
        have o1 := (Lo 1 _ rfl).1
        have o2 := (Lo 2 _ rfl).1
        have o3 := (Lo 3 _ rfl).1
        have o4 := (Lo 4 _ rfl).1
        have r0 := (Lr 0 _ rfl).1
        have rf0 := (Lr 0 _ rfl).2
        have r1 := (Lr 1 _ rfl).1
        have rf1 := (Lr 1 _ rfl).2
        have r2 := (Lr 2 _ rfl).1
        have rf2 := (Lr 2 _ rfl).2
        have r3 := (Lr 3 _ rfl).1
        have rf3 := (Lr 3 _ rfl).2
        have r4 := (Lr 4 _ rfl).1
        have rf4 := (Lr 4 _ rfl).2
        go_wp2_with fail
        refine bodyPost_ret (v := .tuple #[.agg #[.int .i64 n, .slice E1 c3.length i1, .slice E2 pl.length i2, .slice B3 ds.length k3, .int .i64 m], .bool true]) (by simp [results, Try.results35, go_sem, *]) rfl (bec_t ⟨hq.out, rfl, HOK.out hq.out (by simp)⟩ ⟨_, _, _, SQ, rfl, ?_, ?_, ?_⟩)
        · exact OQ.out.chg (T := [w.heap.size + 1]) (by repeat' (first | (with_reducible exact Chg.refl _ _) | (with_reducible refine chg_set ?_ (by simp)))) (fun x hx hx' => DQ.out x hx (by simp at hx'; subst hx'; simp))
        · exact fresh_mono FQ.out (by omega) (by simp)
        · exact Below.chg hb (S := [w.heap.size + 1]) (by repeat' (first | (with_reducible exact Chg.refl _ _) | (with_reducible refine chg_set ?_ (by simp)))) hb.size (fun x hx => by simp at hx; omega)
  · skip
    clear c0 c1 c2 c3 c4
    have hzq : W2.heap.size ≤ W3.heap.size := by have := q.size; (try simp at this); omega
    replace Lc := Lc.below q
    replace Lr := Lr.below q
    replace Lo := Lo.below q
    have OK' := Lib.hid (OK.out.below q)
    clear OK; have OK := OK'; clear OK'
    have FK' := Lib.hid (fresh_mono (w' := W3) FK.out (Nat.le_refl _) hzq)
    clear FK; have FK := FK'; clear FK'
    replace hb : Below w.heap.size w W3 := hb.trans (q.mono hb.size)
    clear q
    have o0 := (Lo 0 _ rfl).1
    have o1 := (Lo 1 _ rfl).1
    have o2 := (Lo 2 _ rfl).1
    have o3 := (Lo 3 _ rfl).1
    have o4 := (Lo 4 _ rfl).1
    have r0 := (Lr 0 _ rfl).1
    have rf0 := (Lr 0 _ rfl).2
    have r1 := (Lr 1 _ rfl).1
    have rf1 := (Lr 1 _ rfl).2
    have r2 := (Lr 2 _ rfl).1
    have rf2 := (Lr 2 _ rfl).2
    have r3 := (Lr 3 _ rfl).1
    have rf3 := (Lr 3 _ rfl).2
    have r4 := (Lr 4 _ rfl).1
    have rf4 := (Lr 4 _ rfl).2
    go_wp2_with fail
    refine bodyPost_ret (v := .tuple #[.agg #[.int .i64 n, .slice B1 cs.length k1, .slice B2 pl.length k2, .slice B3 ds.length k3, .int .i64 m], .bool false]) (by simp [results, Try.results35, go_sem, *]) rfl (bec_f (fun hh => absurd (show theatreB n m cs pl ds = true from hh.1) (by rw [hq.out]; simp)) ⟨_, _, _, S, rfl, ?_, ?_, ?_⟩)
    · exact OK.out.chg (T := [w.heap.size + 1]) (by repeat' (first | (with_reducible exact Chg.refl _ _) | (with_reducible refine chg_set ?_ (by simp)))) (fun x hx hx' => DK.out x hx (by simp at hx'; subst hx'; simp))
    · exact fresh_mono FK.out (by omega) (by simp)
    · exact Below.chg hb (S := [w.heap.size + 1]) (by repeat' (first | (with_reducible exact Chg.refl _ _) | (with_reducible refine chg_set ?_ (by simp)))) hb.size (fun x hx => by simp at hx; omega)
theorem order2 (n m : Int) (cs : List RCross) (pl : List RPl) (ds : List Int) : ∃ n' m' ok cs' pl' ds', (szTheatre cs' pl' ds' ≤ szTheatre cs pl ds ∨ szTheatre cs' pl' ds' ≤ 148) ∧
    (∀ W v1 v2 v3, RdTheatre W v1 v2 v3 cs pl ds → szTheatre cs pl ds ≤ 1048576 → Calls Try.prog 35 #[.agg #[.int .i64 n, v1, v2, v3, .int .i64 m]] W (RetT W.heap.size n' m' ok cs' pl' ds' W)) ∧
    (∀ W v1 v2 v3, RdTheatre W v1 v2 v3 cs pl ds → szTheatre cs pl ds ≤ 1048576 → Calls Try.prog 36 #[.agg #[.int .i64 n, v1, v2, v3, .int .i64 m]] W (RetT W.heap.size n' m' ok cs' pl' ds' W)) :=
  ⟨_, _, _, _, _, _, bec_sz ⟨n, m, cs, pl, ds⟩ _ _, fun W v1 v2 v3 hr hs => specPutInOrder_any n m v1 v2 v3 cs pl ds W hr hs, fun W v1 v2 v3 hr hs => implPutInOrder_any n m v1 v2 v3 cs pl ds W hr hs⟩
end Go.Proofs.Ytjbhlbcjljdjmaa
