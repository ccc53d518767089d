/- Ring, plain: without one backend. -/
import Derived.Test.YtkalbiihehcjkaaRg31
import Derived.Test.YtkalbiihehcjkaaRg21
set_option linter.unusedVariables false
namespace Go.Proofs.Ytkalbiihehcjkaa.Rg
open Go.RowKit Go.Shelf Go.Proofs.Ytkalbiihehcjkaa
set_option linter.unusedSimpArgs false
def rot (l : List Pt) (h : Int) : List Pt := l.drop (ahead l h) ++ l.take (ahead l h)
theorem rot_len (l : List Pt) (h : Int) : (rot l h).length = l.length := by unfold rot; simp; omega
theorem range_rot (l : List Pt) (h : Int) : (List.range l.length).map (idAt l (ahead l h)) = (rot l h).map Pt.i := by
  have ha : ahead l h ≤ l.length := List.countP_le_length
  unfold rot
  generalize ahead l h = a at *
  apply List.ext_getElem
  · simp; omega
  · intro j h1 h2
    have hj : j < l.length := by simpa using h1
    simp only [List.getElem_map, List.getElem_range]
    by_cases hc : j < l.length - a
    · rw [List.getElem_append_left (by simpa using hc), List.getElem_drop]
      unfold idAt
      rw [Nat.mod_eq_of_lt (by omega), List.getElem?_eq_getElem (by omega)]; rfl
    · rw [List.getElem_append_right (by simp; omega), List.getElem_take]
      unfold idAt
      have e : (a + j) % l.length = a + j - l.length := by rw [Nat.mod_eq_sub_mod (by omega), Nat.mod_eq_of_lt (by omega)]
      have e2 : j - (List.drop a l).length = a + j - l.length := by simp; omega
      rw [e, List.getElem?_eq_getElem (by omega)]
      simp only [e2]; rfl
theorem walk_rot {l : List Pt} {h : Int} (he : eAsk l = 0) : oWalk l h = onceOf ((rot l h).map Pt.i) := by
  unfold oWalk walkN; rw [if_pos he, range_rot]
theorem look_rot {l : List Pt} {h : Int} (he : eAsk l = 0) : ((rot l h).map Pt.i)[0]? = some (oLook l h) := by
  obtain ⟨_, h2, _, _⟩ := eAsk_ok he
  rw [← range_rot]
  unfold oLook; rw [if_pos he]
  rw [List.getElem?_map, List.getElem?_range h2]
  rfl
theorem sorted_parts {h : Int} : ∀ {l : List Pt}, l.Pairwise (fun a b => a.h ≤ b.h) → l.take (ahead l h) = l.filter (fun p => decide (p.h < h)) ∧ l.drop (ahead l h) = l.filter (fun p => !decide (p.h < h))
  | [], _ => by simp [ahead]
  | x :: r, hp => by
    have hp2 := List.pairwise_cons.1 hp
    have ih := sorted_parts (h := h) hp2.2
    by_cases hx : x.h < h
    · have e : ahead (x :: r) h = ahead r h + 1 := by unfold ahead; rw [List.countP_cons]; simp [hx]
      rw [e, List.take_succ_cons, List.drop_succ_cons]
      simp [hx, ih.1, ih.2]
    · have e0 : ∀ y ∈ x :: r, ¬ y.h < h := by
        intro y hy
        rcases List.mem_cons.1 hy with rfl | hy
        · exact hx
        · have := hp2.1 y hy; omega
      have e : ahead (x :: r) h = 0 := by unfold ahead; rw [List.countP_eq_zero]; intro y hy; simpa using e0 y hy
      rw [e]
      refine ⟨?_, ?_⟩
      · rw [List.take_zero, eq_comm, List.filter_eq_nil_iff]; intro y hy; simpa using e0 y hy
      · rw [List.drop_zero, eq_comm, List.filter_eq_self]; intro y hy; simpa using e0 y hy
theorem le_h {a b : Pt} (h : a.le b = true) : a.h ≤ b.h := by unfold Pt.le at h; rw [decide_eq_true_eq] at h; omega
theorem sort_h (L : List Pt) : (sortP L).Pairwise (fun a b => a.h ≤ b.h) := (sortP_le L).imp fun h => le_h h
theorem rot_filter {l : List Pt} (hp : l.Pairwise (fun a b => a.h ≤ b.h)) (f : Pt → Bool) (h : Int) : rot (l.filter f) h = (rot l h).filter f := by
  have h1 := sorted_parts (h := h) hp
  have h2 := sorted_parts (h := h) (hp.filter f)
  unfold rot
  rw [h2.1, h2.2, h1.1, h1.2, List.filter_append, List.filter_filter, List.filter_filter, List.filter_filter, List.filter_filter]
  congr 1 <;> (congr 1; funext y; rw [Bool.and_comm])
/-! ### the backends without one -/
def without (l : List Bk) (k : Nat) : List Bk := l.take k ++ l.drop (k + 1)
theorem split_at {l : List Bk} {k : Nat} {x : Bk} (hx : l[k]? = some x) : l = l.take k ++ x :: l.drop (k + 1) := by
  obtain ⟨h1, rfl⟩ := List.getElem?_eq_some_iff.1 hx
  rw [← List.drop_eq_getElem_cons h1, List.take_append_drop]
theorem raw_app (p : Int) (a b : List Bk) : rawTo p (a ++ b) = rawTo p a ++ rawTo p b := by unfold rawTo; rw [List.flatMap_append]
theorem raw_cons (p : Int) (x : Bk) (b : List Bk) : rawTo p (x :: b) = rowOf x (cnt p x) ++ rawTo p b := by unfold rawTo; rw [List.flatMap_cons]
theorem raw_keep {p : Int} {l : List Bk} {i : Int} (h : ∀ y ∈ l, y.id ≠ i) : (rawTo p l).filter (fun q => decide (q.i ≠ i)) = rawTo p l := by
  rw [List.filter_eq_self]; intro q hq
  obtain ⟨y, hy, e⟩ := raw_of hq
  have := h y hy
  simp; omega
theorem row_drop (x : Bk) (m : Nat) : (rowOf x m).filter (fun q => decide (q.i ≠ x.id)) = [] := by
  rw [List.filter_eq_nil_iff]; intro q hq
  unfold rowOf at hq
  obtain ⟨k, _, rfl⟩ := List.mem_map.1 hq
  simp [ptAt]
theorem raw_without {p : Int} {l : List Bk} {k : Nat} {x : Bk} (hx : l[k]? = some x) (hp : l.Pairwise (fun a b => a.id < b.id)) : rawTo p (without l k) = (rawTo p l).filter (fun q => decide (q.i ≠ x.id)) := by
  have hs := split_at hx
  rw [hs] at hp
  rw [List.pairwise_append, List.pairwise_cons] at hp
  obtain ⟨_, ⟨h2, _⟩, h3⟩ := hp
  conv => rhs; rw [hs]
  rw [raw_app, raw_cons, List.filter_append, List.filter_append, row_drop, List.nil_append]
  unfold without
  rw [raw_app, raw_keep (fun y hy => by have := h3 y hy x (by simp); omega), raw_keep (fun y hy => by have := h2 y hy; omega)]
theorem pair_ris : ∀ {l : List Bk}, l.Pairwise (fun a b => a.id < b.id) → ris l = true
  | [], _ => rfl
  | [_], _ => rfl
  | a :: b :: r, h => by
    have h2 := List.pairwise_cons.1 h
    unfold ris
    rw [pair_ris h2.2, decide_eq_true (h2.1 b (by simp))]; rfl
theorem without_sub (l : List Bk) (k : Nat) : (without l k).Sublist l := by
  unfold without
  conv => rhs; rw [← List.take_append_drop k l]
  refine (List.Sublist.refl _).append ?_
  rw [← List.drop_drop]
  exact List.drop_sublist _ _
theorem eChk_without {l : List Bk} (k : Nat) (h : eChk l = 0) : eChk (without l k) = 0 := by
  obtain ⟨f1, f2, f3⟩ := eChk_fine h
  have hs := without_sub l k
  unfold eChk
  rw [if_neg (by have := hs.length_le; omega), if_neg, if_pos (pair_ris ((ris_pair f3).sublist hs))]
  rw [anyOf_f (fun x hx => ?_)]
  · simp
  · have := f2 x (hs.subset hx)
    unfold Bk.odd
    simp; omega
theorem eBuild_without {p : Int} {l : List Bk} {k : Nat} {x : Bk} (hx : l[k]? = some x) (h : eBuild p l = 0) : eBuild p (without l k) = 0 := by
  obtain ⟨h1, h2, h3, h4, h5⟩ := eBuild_0 h
  have hr := raw_without (p := p) hx (ris_pair (eChk_fine h1).2.2)
  unfold eBuild
  rw [if_pos (eChk_without k h1), if_neg (by omega), if_neg]
  rw [hr]
  have := List.length_filter_le (fun q : Pt => decide (q.i ≠ x.id)) (rawTo p l)
  omega
theorem oBuild_without {p : Int} {l : List Bk} {k : Nat} {x : Bk} (hx : l[k]? = some x) (h : eBuild p l = 0) : oBuild p (without l k) = (oBuild p l).filter (fun q => decide (q.i ≠ x.id)) := by
  obtain ⟨h1, h2, h3, h4, h5⟩ := eBuild_0 h
  rw [(eBuild_0 (eBuild_without hx h)).2.2.2.2, h5, raw_without hx (ris_pair (eChk_fine h1).2.2)]
  exact sortP_eq ((sortP_perm _).filter _) ((sortP_le _).filter _)
theorem build_pos {p : Int} {l : List Bk} (h : eBuild p l = 0) (hl : 0 < l.length) : eAsk (oBuild p l) = 0 := by
  obtain ⟨h1, h2, h3, h4, h5⟩ := eBuild_0 h
  obtain ⟨f1, f2, f3⟩ := eChk_fine h1
  have hlen : 0 < (rawTo p l).length := by
    obtain ⟨x, r, rfl⟩ : ∃ x r, l = x :: r := by cases l with
      | nil => simp at hl
      | cons x r => exact ⟨x, r, rfl⟩
    have hx := f2 x (by simp)
    have hc := (cnt_le h2 h3 hx.2.2.1 hx.2.2.2).1
    have : 1 ≤ p * x.wt := by have := Int.mul_le_mul h2 hx.2.2.1 (by omega) (by omega); omega
    rw [raw_cons, List.length_append, rowOf_len]; omega
  unfold eAsk
  rw [if_pos (wChk_build h), if_neg (by rw [len_build h]; omega)]
theorem mem_build {p : Int} {l : List Bk} (h : eBuild p l = 0) (i : Int) : (∃ q ∈ oBuild p l, q.i = i) ↔ ∃ x ∈ l, x.id = i := by
  obtain ⟨h1, h2, h3, h4, h5⟩ := eBuild_0 h
  obtain ⟨f1, f2, f3⟩ := eChk_fine h1
  constructor
  · rintro ⟨q, hq, rfl⟩
    rw [h5] at hq
    obtain ⟨x, hx, e⟩ := raw_of ((sortP_perm _).mem_iff.1 hq)
    exact ⟨x, hx, e.symm⟩
  · rintro ⟨x, hx, rfl⟩
    have hc := cnt_build h hx
    have hx2 := f2 x hx
    have hc2 := (cnt_le h2 h3 hx2.2.2.1 hx2.2.2.2).1
    have : 1 ≤ p * x.wt := by have := Int.mul_le_mul h2 hx2.2.2.1 (by omega) (by omega); omega
    have hpos : 0 < (oBuild p l).countP (fun q => q.i == x.id) := by omega
    obtain ⟨q, hq, e⟩ := List.countP_pos_iff.1 hpos
    exact ⟨q, hq, by simpa using e⟩
theorem walk_count {p : Int} {l : List Bk} (h : eBuild p l = 0) (hl : 0 < l.length) (hh : Int) : (oWalk (oBuild p l) hh).length = l.length := by
  have hp := ris_pair (eChk_fine (eBuild_0 h).1).2.2
  have h1 : (l.map Bk.id).Nodup := by
    unfold List.Nodup; rw [List.pairwise_map]; exact hp.imp fun h => by omega
  have hperm : (oWalk (oBuild p l) hh).Perm (l.map Bk.id) := by
    rw [List.perm_ext_iff_of_nodup (walk_nodup _ _) h1]
    intro a
    rw [walk_mem (build_pos h hl), mem_build h, List.mem_map]
  rw [hperm.length_eq, List.length_map]
theorem fold_at (L : List Int) : ∀ (S : List Int) (j : Nat) (x : Int), S[j]? = some x → (L.foldl addN S)[j]? = some x := by
  induction L with
  | nil => intro S j x h; exact h
  | cons y r ih =>
    intro S j x h
    refine ih _ _ _ ?_
    unfold addN
    split
    · exact h
    · rw [List.getElem?_append_left (List.getElem?_eq_some_iff.1 h).1]; exact h
theorem once_second (x : Int) (L : List Int) : (L.foldl addN [x])[1]? = (L.filter (fun y => decide (y ≠ x)))[0]? := by
  induction L with
  | nil => rfl
  | cons y r ih =>
    rw [List.foldl_cons]
    by_cases hy : y = x
    · subst hy
      rw [show addN [y] y = [y] by simp [addN], ih, List.filter_cons_of_neg (by simp)]
    · rw [show addN [x] y = [x, y] by simp [addN, hy], List.filter_cons_of_pos (by simpa using hy)]
      rw [fold_at r [x, y] 1 y rfl]; rfl
/-- THE LAW, plain. -/
theorem leaves {p : Int} {l : List Bk} {k : Nat} {x : Bk} (hx : l[k]? = some x) (h : eBuild p l = 0) (hl : 2 ≤ l.length) (hh : Int) :
    (oLook (oBuild p l) hh = x.id → (oWalk (oBuild p l) hh)[1]? = some (oLook (oBuild p (without l k)) hh)) ∧ (oLook (oBuild p l) hh ≠ x.id → oLook (oBuild p l) hh = oLook (oBuild p (without l k)) hh) := by
  have hr := build_pos h (by omega)
  have hw := eBuild_without hx h
  have hk := (List.getElem?_eq_some_iff.1 hx).1
  have hs := build_pos hw (by unfold without; simp; omega)
  have h1 := look_rot (h := hh) hr
  have h2 := look_rot (h := hh) hs
  have h3 := walk_rot (h := hh) hr
  have hp : (oBuild p l).Pairwise (fun a b => a.h ≤ b.h) := by rw [(eBuild_0 h).2.2.2.2]; exact sort_h _
  rw [oBuild_without hx h] at h2 ⊢
  rw [rot_filter hp] at h2
  have e : ((rot (oBuild p l) hh).filter (fun q => decide (q.i ≠ x.id))).map Pt.i = ((rot (oBuild p l) hh).map Pt.i).filter (fun y => decide (y ≠ x.id)) := by rw [List.filter_map]; rfl
  rw [e] at h2
  rw [h3]
  generalize oLook (oBuild p l) hh = a at *
  generalize oLook (List.filter (fun q => decide (q.i ≠ x.id)) (oBuild p l)) hh = b at *
  cases hM : (rot (oBuild p l) hh).map Pt.i with
  | nil => rw [hM] at h1; simp at h1
  | cons y M =>
    rw [hM] at h1 h2
    simp at h1; subst h1
    refine ⟨?_, ?_⟩
    · rintro rfl
      rw [List.filter_cons_of_neg (by simp)] at h2
      unfold onceOf
      rw [List.foldl_cons, show addN [] x.id = [x.id] by simp [addN], once_second]; exact h2
    · intro hy
      rw [List.filter_cons_of_pos (by simpa using hy)] at h2
      simpa using h2
end Go.Proofs.Ytkalbiihehcjkaa.Rg
