/- Plain words on crossings: orders behind crossings, crossings that undo each other. No program in sight. -/
import Derived.Test.YtjbhlbcjljdjmaaBdK3x6
import Derived.Test.YtjbhlbcjljdjmaaBdA1x8
namespace Go.Proofs.Ytjbhlbcjljdjmaa
open Go.RowKit

/-- neighbours k and k + 1 change places -/
def swp (o : List Int) (k : Nat) : List Int := (o.set k (o.getD (k + 1) 0)).set (k + 1) (o.getD k 0)
theorem swp_len (o : List Int) (k : Nat) : (swp o k).length = o.length := by simp [swp]
def ordStep (o : List Int) (c : RCross) : List Int := swp o c.1.toNat
def ordFrom (o : List Int) (cs : List RCross) : List Int := cs.foldl ordStep o
def ordF (n : Int) (cs : List RCross) : List Int := ordFrom (upF n) cs
def ordL (n : Int) (cs : List RCross) : List Int := if crossesB n cs = true then ordF n cs else []
theorem ordFrom_succ (o : List Int) (cs : List RCross) {k : Nat} (h : k < cs.length) : ordFrom o (cs.take (k + 1)) = swp (ordFrom o (cs.take k)) cs[k].1.toNat := foldl_take_succ _ _ cs h
theorem ordFrom_len (cs : List RCross) : ∀ o : List Int, (ordFrom o cs).length = o.length := by
  induction cs with
  | nil => intro o; rfl
  | cons c cs ih => intro o; show (ordFrom (ordStep o c) cs).length = _; rw [ih]; exact swp_len _ _
theorem upF_len (n : Int) : (upF n).length = n.toNat := by rw [upF, upN_len]
theorem ordF_len (n : Int) (cs : List RCross) : (ordF n cs).length = n.toNat := by rw [ordF, ordFrom_len, upF_len]
theorem swp_perm {o : List Int} {k : Nat} (h : k + 1 < o.length) : (swp o k).Perm o := by
  have h1 : o = o.take k ++ o[k] :: o[k + 1] :: o.drop (k + 2) := by
    rw [List.getElem_cons_drop, List.getElem_cons_drop, List.take_append_drop]
  have hk : (o.take k).length = k := by rw [List.length_take]; omega
  have key : ∀ (p d : List Int) (a b : Int), p.length = k → ((p ++ a :: b :: d).set k b).set (k + 1) a = p ++ b :: a :: d := by
    intro p d a b hp
    rw [List.set_append_right _ _ (by omega), hp, Nat.sub_self]
    show (p ++ b :: b :: d).set (k + 1) a = _
    rw [List.set_append_right _ _ (by omega), hp, show k + 1 - k = 1 by omega]
    rfl
  have h2 : swp o k = o.take k ++ o[k + 1] :: o[k] :: o.drop (k + 2) := by
    unfold swp
    rw [rise_get (by omega), rise_get (by omega)]
    have := key (o.take k) (o.drop (k + 2)) o[k] o[k + 1] hk
    rw [← h1] at this
    exact this
  rw [h2]
  conv => rhs; rw [h1]
  exact List.Perm.append_left _ (List.Perm.swap _ _ _)
theorem ordFrom_perm (cs : List RCross) : ∀ o : List Int, (∀ c ∈ cs, 0 ≤ c.1 ∧ c.1 + 1 < o.length) → (ordFrom o cs).Perm o := by
  induction cs with
  | nil => intro o _; exact List.Perm.refl _
  | cons c cs ih =>
    intro o h
    have hc := h c List.mem_cons_self
    refine (ih (ordStep o c) (fun d hd => ?_)).trans (swp_perm (by omega))
    rw [ordStep, swp_len]
    exact h d (List.mem_cons_of_mem _ hd)
theorem vote_perm {n : Nat} {o o' : List Int} (h : Vote n o) (hp : o'.Perm o) : Vote n o' := ⟨hp.length_eq.trans h.len, hp.nodup_iff.2 h.nodup, fun x hx => h.bd x (hp.mem_iff.1 hx)⟩
theorem upN_vote (n : Nat) : Vote n (upN n) := by
  refine ⟨upN_len n, ?_, fun x hx => ?_⟩
  · unfold upN
    rw [List.nodup_iff_pairwise_ne, List.pairwise_map]
    exact (List.nodup_iff_pairwise_ne.1 List.nodup_range).imp (fun h e => h (by omega))
  · unfold upN at hx
    obtain ⟨i, hi, rfl⟩ := List.mem_map.1 hx
    simp at hi
    omega
theorem ord_vote {n : Int} {cs : List RCross} (h : crossesB n cs = true) (k : Nat) : Vote n.toNat (ordFrom (upF n) (cs.take k)) := by
  obtain ⟨h1, _, h3⟩ := crosses_len h
  refine vote_perm (upN_vote n.toNat) (ordFrom_perm (cs.take k) (upF n) (fun c hc => ?_))
  have := h3 c (List.mem_of_mem_take hc)
  rw [upF_len]
  omega
theorem vote_order {n : Nat} {o : List Int} (h : Vote n o) (h1 : 1 ≤ n) (h7 : n ≤ 7) : orderB o = true := by
  rw [orderB_iff]
  have := h.len
  exact ⟨by omega, h.nodup, fun x hx => by have := h.bd x hx; omega⟩

/- crossings that undo each other -/
def lastC (out : List RCross) : RCross := out.getD (out.length - 1) (0, false)
def undoB (out : List RCross) (c : RCross) : Bool := decide (0 < out.length) && (decide ((lastC out).1 = c.1) && ((lastC out).2 != c.2))
def redStep (out : List RCross) (c : RCross) : List RCross := if undoB out c = true then out.take (out.length - 1) else out ++ [c]
def redF (cs : List RCross) : List RCross := cs.foldl redStep []
def redL (n : Int) (cs : List RCross) : List RCross := if crossesB n cs = true then redF cs else []
theorem redF_succ (cs : List RCross) {k : Nat} (h : k < cs.length) : redF (cs.take (k + 1)) = redStep (redF (cs.take k)) cs[k] := foldl_take_succ _ _ cs h
theorem redStep_len (out : List RCross) (c : RCross) : (redStep out c).length ≤ out.length + 1 := by
  unfold redStep; split
  · rw [List.length_take]; omega
  · simp
theorem redF_len (cs : List RCross) (k : Nat) (hk : k ≤ cs.length) : (redF (cs.take k)).length ≤ k := by
  induction k with
  | zero => simp [redF]
  | succ k ih => rw [redF_succ cs (by omega)]; have := redStep_len (redF (cs.take k)) cs[k]; have := ih (by omega); omega
theorem redF_all (cs : List RCross) : (redF cs).length ≤ cs.length := by
  have := redF_len cs cs.length (Nat.le_refl _)
  rwa [List.take_length] at this
end Go.Proofs.Ytjbhlbcjljdjmaa
