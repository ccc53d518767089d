/- Timer: a queue, plain: up, down, what comes of it, the order of all (no program in sight). -/
import Derived.Test.YtmoaekjkihbicaaTm2
set_option linter.unusedVariables false
namespace Go.Proofs.Ytmoaekjkihbicaa.Tm
open Go.RowKit Go.Proofs.Ytmoaekjkihbicaa
set_option linter.unusedSimpArgs false
def tz : Tm := ⟨0, 0⟩
abbrev gt (l : List Tm) (i : Nat) : Tm := l.getD i ⟨0, 0⟩
def swp (l : List Tm) (i j : Nat) : List Tm := (l.set i (l.getD j ⟨0, 0⟩)).set j (l.getD i ⟨0, 0⟩)
theorem swp_len (l : List Tm) (i j : Nat) : (swp l i j).length = l.length := by simp [swp]
/-- Up from a place. -/
def up : Nat → List Tm → Nat → List Tm
  | 0, l, _ => l
  | f + 1, l, i => if badAt l i = true then up f (swp l i ((i - 1) / 2)) ((i - 1) / 2) else l
def pushL (l : List Tm) (t : Tm) : List Tm := up (l.length + 1) (l ++ [t]) l.length
theorem up_len : ∀ (f : Nat) (l : List Tm) (i : Nat), (up f l i).length = l.length
  | 0, l, i => rfl
  | f + 1, l, i => by unfold up; split; rw [up_len f, swp_len]; rfl
theorem pushL_len (l : List Tm) (t : Tm) : (pushL l t).length = l.length + 1 := by unfold pushL; rw [up_len]; simp
/-- The child ahead of the other one. -/
def kid (l : List Tm) (i : Nat) : Nat := if 2 * i + 2 < l.length ∧ (gt l (2 * i + 2)).lt (gt l (2 * i + 1)) = true then 2 * i + 2 else 2 * i + 1
/-- Down from a place. -/
def down : Nat → List Tm → Nat → List Tm
  | 0, l, _ => l
  | f + 1, l, i => if 2 * i + 1 < l.length ∧ (gt l (kid l i)).lt (gt l i) = true then down f (swp l i (kid l i)) (kid l i) else l
def offL (l : List Tm) : List Tm := (l.set 0 (l.getD (l.length - 1) ⟨0, 0⟩)).take (l.length - 1)
def popL (l : List Tm) : List Tm := down (l.length + 1) (offL l) 0
theorem down_len : ∀ (f : Nat) (l : List Tm) (i : Nat), (down f l i).length = l.length
  | 0, l, i => rfl
  | f + 1, l, i => by unfold down; split; rw [down_len f, swp_len]; rfl
theorem popL_len (l : List Tm) : (popL l).length = l.length - 1 := by unfold popL offL; rw [down_len]; simp
/-! ### the order -/
theorem lt_iff (a b : Tm) : a.lt b = true ↔ a.t < b.t ∨ (a.t = b.t ∧ a.id < b.id) := by
  unfold Tm.lt; simp only [Bool.or_eq_true, Bool.and_eq_true, decide_eq_true_eq]
def Tm.le (a b : Tm) : Bool := !b.lt a
theorem le_iff (a b : Tm) : a.le b = true ↔ a.t < b.t ∨ (a.t = b.t ∧ a.id ≤ b.id) := by
  unfold Tm.le
  rw [Bool.not_eq_true', ← Bool.not_eq_true, lt_iff]; omega
theorem lt_f (a b : Tm) : a.lt b = false ↔ b.t < a.t ∨ (a.t = b.t ∧ b.id ≤ a.id) := by
  rw [← Bool.not_eq_true, lt_iff]; omega
theorem le_total (a b : Tm) : (a.le b || b.le a) = true := by rw [Bool.or_eq_true, le_iff, le_iff]; omega
theorem le_trans {a b c : Tm} (h1 : a.le b = true) (h2 : b.le c = true) : a.le c = true := by rw [le_iff] at *; omega
theorem le_anti {a b : Tm} (h1 : a.le b = true) (h2 : b.le a = true) : a = b := by
  cases a; cases b
  rw [le_iff] at *
  rw [Tm.mk.injEq]
  simp only at *
  omega
theorem le_lt (a b : Tm) : a.le b = true ↔ b.lt a = false := by unfold Tm.le; rw [Bool.not_eq_true']
/-! ### exchanges -/
theorem gt_set {l : List Tm} {i j : Nat} {x : Tm} (hi : i < l.length) : gt (l.set i x) j = if i = j then x else gt l j := by
  unfold gt
  rw [List.getD_eq_getElem?_getD, List.getD_eq_getElem?_getD, List.getElem?_set]
  by_cases h : i = j
  · subst h; simp [hi]
  · simp [h]
theorem gt_swp {l : List Tm} {i j k : Nat} (hi : i < l.length) (hj : j < l.length) : gt (swp l i j) k = if j = k then gt l i else if i = k then gt l j else gt l k := by
  unfold swp
  rw [gt_set (by simpa using hj), gt_set hi]
theorem swp_perm {l : List Tm} {i j : Nat} (hi : i < l.length) (hj : j < l.length) : (swp l i j).Perm l := by
  unfold swp
  have e1 : l.getD i ⟨0, 0⟩ = l[i] := by rw [List.getD_eq_getElem?_getD, List.getElem?_eq_getElem hi]; rfl
  have e2 : l.getD j ⟨0, 0⟩ = l[j] := by rw [List.getD_eq_getElem?_getD, List.getElem?_eq_getElem hj]; rfl
  rw [e1, e2]
  exact List.set_set_perm hi hj
theorem bad_iff (l : List Tm) (i : Nat) : badAt l i = true ↔ 0 < i ∧ (gt l i).lt (gt l ((i - 1) / 2)) = true := by
  unfold badAt; rw [Bool.and_eq_true, decide_eq_true_eq]
theorem bad_f (l : List Tm) (i : Nat) : badAt l i = false ↔ (0 < i → (gt l ((i - 1) / 2)).le (gt l i) = true) := by
  rw [← Bool.not_eq_true, bad_iff, le_lt]
  simp only [not_and, Bool.not_eq_true]
theorem up_perm : ∀ (f : Nat) (l : List Tm) (i : Nat), i < l.length → (up f l i).Perm l
  | 0, l, i, _ => List.Perm.refl _
  | f + 1, l, i, h => by
    unfold up
    split
    · exact (up_perm f _ _ (by rw [swp_len]; omega)).trans (swp_perm h (by omega))
    · exact List.Perm.refl _
theorem pushL_perm (l : List Tm) (t : Tm) : (pushL l t).Perm (l ++ [t]) := up_perm _ _ _ (by simp)
theorem up_heap : ∀ (f : Nat) (l : List Tm) (i : Nat), i < f → i < l.length → (∀ j, j < l.length → j ≠ i → badAt l j = false) → (0 < i → ∀ c, c < l.length → 0 < c → (c - 1) / 2 = i → (gt l ((i - 1) / 2)).le (gt l c) = true) → isHeap (up f l i)
  | 0, l, i, hf, _, _, _ => by omega
  | f + 1, l, i, hf, hi, h1, h2 => by
    unfold up
    by_cases hb : badAt l i = true
    · rw [if_pos hb]
      obtain ⟨h0, hlt⟩ := (bad_iff _ _).1 hb
      have hp : (i - 1) / 2 < i := by omega
      have hpl : (i - 1) / 2 < l.length := by omega
      have h2 := h2 h0
      have hle : (gt l i).le (gt l ((i - 1) / 2)) = true := by rw [le_iff]; rw [lt_iff] at hlt; omega
      apply up_heap f _ _ (by omega) (by rw [swp_len]; omega)
      · intro j hj hne
        rw [swp_len] at hj
        rw [bad_f]
        intro hj0
        rw [gt_swp hi hpl, gt_swp hi hpl]
        rw [if_neg (show ¬ (i - 1) / 2 = j from fun e => hne e.symm)]
        by_cases hji : j = i
        · subst hji; rw [if_pos rfl, if_pos rfl]; exact hle
        · rw [if_neg (show ¬ i = j from fun e => hji e.symm)]
          have h3 := (bad_f _ _).1 (h1 j hj hji) hj0
          by_cases hjp : (i - 1) / 2 = (j - 1) / 2
          · rw [if_pos hjp]; rw [← hjp] at h3; exact le_trans hle h3
          · rw [if_neg hjp]
            by_cases hjq : i = (j - 1) / 2
            · rw [if_pos hjq]; exact h2 j hj hj0 hjq.symm
            · rw [if_neg hjq]; exact h3
      · intro hp0 c hc hc0 hcp
        rw [swp_len] at hc
        rw [gt_swp hi hpl, gt_swp hi hpl]
        rw [if_neg (show ¬ (i - 1) / 2 = ((i - 1) / 2 - 1) / 2 by omega), if_neg (show ¬ i = ((i - 1) / 2 - 1) / 2 by omega), if_neg (show ¬ (i - 1) / 2 = c by omega)]
        have h4 := (bad_f _ _).1 (h1 ((i - 1) / 2) (by omega) (by omega)) hp0
        by_cases hci : i = c
        · rw [if_pos hci]; exact h4
        · rw [if_neg hci]
          have h5 := (bad_f _ _).1 (h1 c hc (by omega)) hc0
          rw [hcp] at h5
          exact le_trans h4 h5
    · rw [if_neg hb]
      intro j hj
      by_cases hji : j = i
      · subst hji; simpa using hb
      · exact h1 j hj hji
theorem gt_app {l : List Tm} {t : Tm} {j : Nat} (h : j < l.length) : gt (l ++ [t]) j = gt l j := by
  unfold gt
  rw [List.getD_eq_getElem?_getD, List.getD_eq_getElem?_getD, List.getElem?_append_left h]
theorem pushL_heap {l : List Tm} (t : Tm) (h : isHeap l) : isHeap (pushL l t) := by
  unfold pushL
  apply up_heap _ _ _ (by omega) (by simp)
  · intro j hj hne
    simp at hj
    have h1 := h j (by omega)
    rw [bad_f] at *
    intro h0
    rw [gt_app (by omega), gt_app (by omega)]
    exact h1 h0
  · intro h0 c hc _ hcp
    simp at hc; omega
theorem down_perm : ∀ (f : Nat) (l : List Tm) (i : Nat), (down f l i).Perm l
  | 0, l, i => List.Perm.refl _
  | f + 1, l, i => by
    unfold down
    split
    · rename_i h
      refine (down_perm f _ _).trans (swp_perm (by omega) ?_)
      unfold kid; split
      · rename_i h2; exact h2.1
      · exact h.1
    · exact List.Perm.refl _
theorem kid_cases (l : List Tm) (i : Nat) : kid l i = 2 * i + 1 ∨ kid l i = 2 * i + 2 := by unfold kid; split <;> simp
theorem kid_lt {l : List Tm} {i : Nat} (h : 2 * i + 1 < l.length) : kid l i < l.length := by
  unfold kid; split
  · rename_i h2; exact h2.1
  · exact h
theorem kid_le {l : List Tm} {i c : Nat} (hc : c < l.length) (h0 : 0 < c) (hci : (c - 1) / 2 = i) : (gt l (kid l i)).le (gt l c) = true := by
  have h3 : c = 2 * i + 1 ∨ c = 2 * i + 2 := by omega
  unfold kid
  by_cases h : 2 * i + 2 < l.length ∧ (gt l (2 * i + 2)).lt (gt l (2 * i + 1)) = true
  · rw [if_pos h]
    have h2 := (lt_iff _ _).1 h.2
    rcases h3 with rfl | rfl <;> rw [le_iff] <;> omega
  · rw [if_neg h]
    rcases h3 with rfl | rfl
    · rw [le_iff]; omega
    · rw [le_lt]
      have : ¬ (gt l (2 * i + 2)).lt (gt l (2 * i + 1)) = true := fun h2 => h ⟨hc, h2⟩
      simpa using this
theorem down_heap : ∀ (f : Nat) (l : List Tm) (i : Nat), l.length < f + i → (∀ j, j < l.length → 0 < j → (j - 1) / 2 ≠ i → badAt l j = false) → (0 < i → ∀ c, c < l.length → 0 < c → (c - 1) / 2 = i → (gt l ((i - 1) / 2)).le (gt l c) = true) → isHeap (down f l i)
  | 0, l, i, hf, h1, h2 => by
    intro j hj
    unfold down at *
    by_cases h0 : 0 < j
    · exact h1 j hj h0 (by omega)
    · rw [bad_f]; intro h; omega
  | f + 1, l, i, hf, h1, h2 => by
    unfold down
    by_cases hd : 2 * i + 1 < l.length ∧ (gt l (kid l i)).lt (gt l i) = true
    · rw [if_pos hd]
      have hk := kid_lt hd.1
      have hkc := kid_cases l i
      have hkle := fun c => @kid_le l i c
      have hle : (gt l (kid l i)).le (gt l i) = true := by rw [le_iff]; have := (lt_iff _ _).1 hd.2; omega
      generalize kid l i = k at *
      have hil : i < l.length := by omega
      apply down_heap f _ _ (by rw [swp_len]; omega)
      · intro j hj h0 hne
        rw [swp_len] at hj
        rw [bad_f]
        intro _
        rw [gt_swp hil hk, gt_swp hil hk]
        rw [if_neg (show ¬ k = (j - 1) / 2 from fun e => hne e.symm)]
        by_cases hjk : k = j
        · subst hjk
          rw [if_pos rfl, if_pos (show i = (k - 1) / 2 by omega)]; exact hle
        · rw [if_neg hjk]
          by_cases hjp : i = (j - 1) / 2
          · rw [if_pos hjp, if_neg (show ¬ i = j by omega)]; exact hkle j hj h0 hjp.symm
          · rw [if_neg hjp]
            have h3 := (bad_f _ _).1 (h1 j hj h0 (fun e => hjp e.symm)) h0
            by_cases hij : i = j
            · rw [if_pos hij]; subst hij; exact h2 h0 k hk (by omega) (by omega)
            · rw [if_neg hij]; exact h3
      · intro hk0 c hc hc0 hcp
        rw [swp_len] at hc
        rw [gt_swp hil hk, gt_swp hil hk]
        rw [show (k - 1) / 2 = i by omega, if_neg (show ¬ k = i by omega), if_pos rfl, if_neg (show ¬ k = c by omega), if_neg (show ¬ i = c by omega)]
        have h5 := (bad_f _ _).1 (h1 c hc hc0 (by omega)) hc0
        rw [hcp] at h5; exact h5
    · rw [if_neg hd]
      intro j hj
      rw [bad_f]
      intro h0
      by_cases hjp : (j - 1) / 2 = i
      · have h6 := kid_le hj h0 hjp
        have h7 : ¬ (gt l (kid l i)).lt (gt l i) = true := fun h => hd ⟨by omega, h⟩
        rw [hjp]
        have h8 : (gt l i).le (gt l (kid l i)) = true := by rw [le_lt]; simpa using h7
        exact le_trans h8 h6
      · exact (bad_f _ _).1 (h1 j hj h0 hjp) h0
theorem off_get {l : List Tm} {j : Nat} (h0 : 0 < j) (hj : j < l.length - 1) : gt (offL l) j = gt l j := by
  unfold offL gt
  rw [List.getD_eq_getElem?_getD, List.getElem?_take_of_lt hj, List.getElem?_set_ne (by omega)]
  exact (List.getD_eq_getElem?_getD (l := l) ..).symm
theorem off_len (l : List Tm) : (offL l).length = l.length - 1 := by unfold offL; simp
theorem popL_heap {l : List Tm} (h : isHeap l) : isHeap (popL l) := by
  unfold popL
  apply down_heap _ _ _ (by rw [off_len]; omega)
  · intro j hj h0 hne
    rw [off_len] at hj
    have h1 := h j (by omega)
    rw [bad_f] at *
    intro _
    rw [off_get h0 hj, off_get (by omega) (by omega)]
    exact h1 h0
  · intro h0; omega
theorem off_perm {x : Tm} {r : List Tm} : (offL (x :: r)).Perm r := by
  unfold offL
  rcases List.eq_nil_or_concat r with rfl | ⟨q, y, rfl⟩
  · simp
  · rw [List.getD_eq_getElem?_getD]
    simp only [List.concat_eq_append, List.length_cons, List.length_append, List.length_nil, Nat.zero_add, Nat.add_sub_cancel, List.set_cons_zero]
    rw [show (x :: (q ++ [y]))[q.length + 1]? = some y by simp, List.take_succ_cons, List.take_left']
    · exact (List.perm_append_singleton y q).symm
    · rfl
theorem popL_perm (x : Tm) (r : List Tm) : (popL (x :: r)).Perm r := (down_perm _ _ _).trans off_perm
/-- The first one is not behind any. -/
theorem root_le {l : List Tm} (h : isHeap l) : ∀ j, j < l.length → (gt l 0).le (gt l j) = true := by
  intro j
  induction j using Nat.strongRecOn with
  | ind j ih =>
    intro hj
    by_cases h0 : 0 < j
    · exact le_trans (ih ((j - 1) / 2) (by omega) (by omega)) ((bad_f _ _).1 (h j hj) h0)
    · obtain rfl : j = 0 := by omega
      rw [le_iff]; omega
/-! ### all, in order -/
def sortT (L : List Tm) : List Tm := L.mergeSort Tm.le
theorem sortT_perm (L : List Tm) : (sortT L).Perm L := List.mergeSort_perm L _
theorem sortT_len (L : List Tm) : (sortT L).length = L.length := (sortT_perm L).length_eq
theorem sortT_le (L : List Tm) : (sortT L).Pairwise (fun a b => a.le b = true) :=
  List.pairwise_mergeSort (le := Tm.le) (fun _ _ _ => le_trans) le_total L
theorem sortT_eq {L M : List Tm} (hp : M.Perm L) (hs : M.Pairwise (fun a b => a.le b = true)) : sortT L = M :=
  List.Perm.eq_of_pairwise (le := fun a b => a.le b = true) (fun a b _ _ h1 h2 => le_anti h1 h2) (sortT_le L) hs ((sortT_perm L).trans hp.symm)
theorem sortT_congr {L M : List Tm} (hp : M.Perm L) : sortT L = sortT M := sortT_eq ((sortT_perm M).trans hp) (sortT_le M)
theorem sortT_filter (L : List Tm) (p : Tm → Bool) : sortT (L.filter p) = (sortT L).filter p :=
  sortT_eq ((sortT_perm L).filter p) ((sortT_le L).filter p)
theorem sortT_pop {x : Tm} {r : List Tm} (h : isHeap (x :: r)) : sortT (x :: r) = x :: sortT (popL (x :: r)) := by
  apply sortT_eq
  · exact ((sortT_perm _).trans (popL_perm x r)).cons x
  · rw [List.pairwise_cons]
    refine ⟨fun b hb => ?_, sortT_le _⟩
    have h1 : b ∈ r := ((sortT_perm _).trans (popL_perm x r)).mem_iff.1 hb
    obtain ⟨j, hj⟩ := List.getElem?_of_mem h1
    have h2 := root_le h (j + 1) (by have := (List.getElem?_eq_some_iff.1 hj).1; simp; omega)
    unfold gt at h2
    rw [List.getD_eq_getElem?_getD, List.getD_eq_getElem?_getD] at h2
    simpa [hj] using h2
/-! ### those that are due -/
def dueL : Nat → List Tm → Int → List Tm × List Tm
  | 0, l, _ => (l, [])
  | f + 1, l, tick => match l with
    | [] => ([], [])
    | x :: r => if x.t ≤ tick then ((dueL f (popL (x :: r)) tick).1, x :: (dueL f (popL (x :: r)) tick).2) else (x :: r, [])
theorem due_all : ∀ (f : Nat) (l : List Tm) (tick : Int), l.length < f → isHeap l →
    isHeap (dueL f l tick).1 ∧ sortT l = (dueL f l tick).2 ++ sortT (dueL f l tick).1 ∧ (∀ x ∈ (dueL f l tick).2, x.t ≤ tick) ∧ (∀ x ∈ (dueL f l tick).1, tick < x.t)
  | 0, l, tick, hf, _ => by omega
  | f + 1, [], tick, hf, h => by unfold dueL; simp [sortT, isHeap]
  | f + 1, x :: r, tick, hf, h => by
    unfold dueL
    by_cases hx : x.t ≤ tick
    · simp only [if_pos hx]
      have h1 := due_all f (popL (x :: r)) tick (by rw [popL_len]; simp at *; omega) (popL_heap h)
      refine ⟨h1.1, ?_, ?_, h1.2.2.2⟩
      · rw [sortT_pop h, h1.2.1]; rfl
      · intro y hy
        rcases List.mem_cons.1 hy with rfl | hy
        · exact hx
        · exact h1.2.2.1 y hy
    · simp only [if_neg hx]
      refine ⟨h, rfl, by simp, fun y hy => ?_⟩
      obtain ⟨j, hj⟩ := List.getElem?_of_mem hy
      have h2 := root_le h j (List.getElem?_eq_some_iff.1 hj).1
      unfold gt at h2
      rw [List.getD_eq_getElem?_getD, List.getD_eq_getElem?_getD, hj] at h2
      simp only [List.getElem?_cons_zero, Option.getD_some] at h2
      rw [le_iff] at h2; omega
theorem due_perm (f : Nat) (l : List Tm) (tick : Int) (hf : l.length < f) (h : isHeap l) : ((dueL f l tick).2 ++ (dueL f l tick).1).Perm l := by
  have h1 := (due_all f l tick hf h).2.1
  exact ((sortT_perm _).append_left _).symm.trans (h1 ▸ sortT_perm l)
/-! ### what may be stays -/
theorem eChk_of {l : List Tm} (h : eChk l = 0) : l.length ≤ 1024 ∧ Sl.anyOf Tm.odd l = false ∧ (l.map Tm.id).Nodup ∧ isHeap l := by
  unfold eChk at h
  by_cases h1 : 1024 < l.length
  · rw [if_pos h1] at h; omega
  · rw [if_neg h1] at h
    by_cases h2 : Sl.anyOf Tm.odd l = true
    · rw [if_pos h2] at h; omega
    · rw [if_neg h2] at h
      by_cases h3 : (l.map Tm.id).Nodup
      · rw [if_neg (by simpa using h3)] at h
        by_cases h4 : isHeap l
        · exact ⟨by omega, by simpa using h2, h3, h4⟩
        · rw [if_neg h4] at h; omega
      · rw [if_pos h3] at h; omega
theorem eChk_mk {l : List Tm} (h1 : l.length ≤ 1024) (h2 : ∀ x ∈ l, x.odd = false) (h3 : (l.map Tm.id).Nodup) (h4 : isHeap l) : eChk l = 0 := by
  have h5 : ¬ Sl.anyOf Tm.odd l = true := fun h => by
    obtain ⟨x, hx, hx2⟩ := Sl.anyOf_true h
    rw [h2 x hx] at hx2; cases hx2
  unfold eChk; rw [if_neg (by omega), if_neg h5, if_neg (by simpa using h3), if_pos h4]
/-- One that comes of others that may be, fewer of them, in a heap. -/
theorem eChk_sub {l m : List Tm} {p : Tm → Bool} (h : eChk l = 0) (hp : m.Perm (l.filter p)) (hm : isHeap m) : eChk m = 0 := by
  obtain ⟨h1, h2, h3, h4⟩ := eChk_of h
  apply eChk_mk
  · rw [hp.length_eq]; exact Nat.le_trans (List.length_filter_le _ _) h1
  · intro x hx
    exact Sl.anyOf_false h2 x (List.mem_filter.1 (hp.mem_iff.1 hx)).1
  · rw [(hp.map Tm.id).nodup_iff]
    exact h3.sublist ((List.filter_sublist (l := l)).map Tm.id)
  · exact hm
end Go.Proofs.Ytmoaekjkihbicaa.Tm
