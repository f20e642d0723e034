/- Plain: a script has the acts it was written from. No program in sight. -/
import Derived.Test.YtdhmhgjjppeodaaGreatDoorH19
import Derived.Test.YtdhmhgjjppeodaaGreatDoorH7
namespace Go.Proofs.YtdhmhgjjppeodaaGreatDoor
open Go.RowKit
theorem act_tok {t : RA} (h : actB t.1 t.2.1 t.2.2 = true) : tok (actS t).data.toList = actTok t := by
 rw [actS_list h]
 exact tok_of_jn (actTok_flds h)
theorem act_fldB {t : RA} (h : actB t.1 t.2.1 t.2.2 = true) : fldB (actS t) = true := by
 have hz := actS_size (k := t.1) (a := t.2.1) (b := t.2.2)
 have hby : bytesB (actS t) 32 126 = true := by
  unfold bytesB
  rw [actS_list h, List.all_eq_true]
  exact act_bytes h
 have hz' : (actS t).size ≤ 60 := hz
 unfold fldB lineB
 rw [act_tok h, hby, decide_eq_true (show (actS t).size ≤ 600 by omega), decide_eq_true]
 ·rfl
 ·have := kNums_len t.1 t.2.1 t.2.2
  simp [actTok]; omega
theorem act_fldF {t : RA} (h : actB t.1 t.2.1 t.2.2 = true) : fldF (actS t) = (actTok t).map baL := by
 unfold fldF
 rw [if_pos (act_fldB h), act_tok h]
theorem act_read {t : RA} (h : actB t.1 t.2.1 t.2.2 = true) : prsA (actS t) = (t, true) := by
 unfold prsA
 rw [if_pos (act_fldB h), ← read_same, act_fldF h]
 exact read_act h
theorem act_nl {t : RA} (h : actB t.1 t.2.1 t.2.2 = true) : (10 : UInt8) ∉ (actS t).data.toList := by
 intro hx
 rw [actS_list h] at hx
 have := act_bytes h 10 hx
 revert this
 decide
theorem scr_fold (l : List RA) : ∀ s : ByteArray, (l.foldl scrStepS s).data.toList = s.data.toList ++ scrL (l.map (fun t => (actS t).data.toList)) := by
 induction l with
 | nil => intro s; simp [scrL]
 | cons t l ih =>
  intro s
  rw [List.foldl_cons, ih, List.map_cons, scrL_cons]
  simp [scrStepS, nl1, ByteArray.data_append]
theorem spl_scr {l : List RA} (h : ∀ t ∈ l, actB t.1 t.2.1 t.2.2 = true) : splB (scrS l) = l.map actS ++ [ByteArray.empty] := by
 have e : (splB (scrS l)).map (fun x => x.data.toList) = (l.map actS ++ [ByteArray.empty]).map (fun x => x.data.toList) := by
  rw [show (splB (scrS l)).map (fun x => x.data.toList) = lins (scrS l).data.toList from split_lins _]
  unfold scrS
  rw [scr_fold, show (ByteArray.empty).data.toList = [] from rfl, List.nil_append, lins_scr]
  ·simp
  ·intro s hs
   obtain ⟨t, ht, rfl⟩ := List.mem_map.1 hs
   exact act_nl (h t ht)
 have hb : ∀ L : List ByteArray, (L.map (fun x => x.data.toList)).map baL = L := fun L => by
  rw [List.map_map]
  exact (List.map_congr_left (g := id) (fun x _ => baL_of x)).trans (List.map_id _)
 rw [← hb (splB (scrS l)), e, hb]
theorem rs_fold {l : List RA} (h : ∀ t ∈ l, actB t.1 t.2.1 t.2.2 = true) : ∀ l0 : List RA, (l.map actS).foldl rsStep (some l0) = some (l0 ++ l) := by
 induction l with
 | nil => intro l0; simp
 | cons t l ih =>
  intro l0
  have ht := h t List.mem_cons_self
  rw [List.map_cons, List.foldl_cons]
  have e : rsStep (some l0) (actS t) = some (l0 ++ [t]) := by
   show (if _ then _ else if _ then _ else _) = _
   rw [if_neg, act_read ht, if_pos rfl]
   rintro ⟨_, h2⟩
   rw [act_fldF ht] at h2
   simp [actTok] at h2
  rw [e, ih (fun x hx => h x (List.mem_cons_of_mem _ hx))]
  simp
theorem rs_scr {l : List RA} (h : ∀ t ∈ l, actB t.1 t.2.1 t.2.2 = true) : rsAll (splB (scrS l)) = some l := by
 rw [spl_scr h]
 unfold rsAll
 rw [List.foldl_append, rs_fold h, List.nil_append, List.foldl_cons, List.foldl_nil]
 have h1 : fldB ByteArray.empty = true := by decide
 have h2 : fldF ByteArray.empty = [] := by decide
 show (if fldB ByteArray.empty = true ∧ fldF ByteArray.empty = [] then some l else if (prsA ByteArray.empty).2 = true then some (l ++ [(prsA ByteArray.empty).1]) else none) = some l
 exact if_pos (And.intro h1 h2)
theorem script_acts {l : List RA} (h : ∀ t ∈ l, actB t.1 t.2.1 t.2.2 = true) (hl : l.length ≤ 40) : rsF (scrS l) = (rsOut l, true) := by
 have hz := scrS_size l l.length (Nat.le_refl _)
 rw [List.take_length] at hz
 refine rsF_t ?_ hl
 unfold rsL
 rw [if_pos (by omega)]
 exact rs_scr h
theorem script_ok {l : List RA} (h : ∀ t ∈ l, actB t.1 t.2.1 t.2.2 = true) (hl : l.length ≤ 40) : scrB l = true ∧ scrV l = scrS l := by
 have h1 : scrB l = true := scr_all hl (List.all_eq_true.2 (fun t ht => h t ht))
 refine ⟨h1, ?_⟩
 unfold scrV
 rw [h1]; rfl
end Go.Proofs.YtdhmhgjjppeodaaGreatDoor
