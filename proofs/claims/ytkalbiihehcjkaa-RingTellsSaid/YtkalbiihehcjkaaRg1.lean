/- Ring: points in order, plain: the order, sorting, insertion (no program in sight). -/
import Derived.Test.YtkalbiihehcjkaaOpn
set_option linter.unusedVariables false
namespace Go.Proofs.Ytkalbiihehcjkaa.Rg
open Go.RowKit Go.Proofs.Ytkalbiihehcjkaa
set_option linter.unusedSimpArgs false
structure Pt where
  h : Int
  i : Int
deriving DecidableEq
def Pt.cs (p : Pt) : List Value := [.int .u64 p.h, .int .i64 p.i]
abbrev Pt.a (p : Pt) : Value := .agg #[.int .u64 p.h, .int .i64 p.i]
theorem Pt.cs_len (p : Pt) : p.cs.length = 2 := rfl
/-- What the order tells of two points. -/
def cmpI (a b : Int) : Int := if a < b then -1 else if b < a then 1 else 0
def Pt.cmp (a b : Pt) : Int := if cmpI a.h b.h = 0 then cmpI a.i b.i else cmpI a.h b.h
def Pt.le (a b : Pt) : Bool := decide (a.h < b.h ∨ (a.h = b.h ∧ a.i ≤ b.i))
/-- Does a stand behind b? -/
def Pt.beh (a b : Pt) : Bool := decide (b.h < a.h ∨ (a.h = b.h ∧ b.i < a.i))
theorem cmp_neg (a b : Pt) : a.cmp b < 0 ↔ ¬ b.le a = true := by
  unfold Pt.cmp Pt.le cmpI
  rw [decide_eq_true_eq]
  (repeat' split) <;> omega
theorem cmp_zero {a b : Pt} (h : a.cmp b = 0) : a = b := by
  cases a; cases b
  unfold Pt.cmp cmpI at h
  simp only at h
  rw [Pt.mk.injEq]
  (repeat' split at h) <;> omega
theorem beh_le (a b : Pt) : a.beh b = !a.le b := by
  unfold Pt.beh Pt.le
  rw [Bool.eq_iff_iff, Bool.not_eq_true', decide_eq_true_eq, decide_eq_false_iff_not]
  omega
theorem le_total (a b : Pt) : (a.le b || b.le a) = true := by
  unfold Pt.le; rw [Bool.or_eq_true, decide_eq_true_eq, decide_eq_true_eq]; omega
theorem le_trans {a b c : Pt} (h1 : a.le b = true) (h2 : b.le c = true) : a.le c = true := by
  unfold Pt.le at *; rw [decide_eq_true_eq] at *; omega
theorem le_anti {a b : Pt} (h1 : a.le b = true) (h2 : b.le a = true) : a = b := by
  cases a; cases b
  unfold Pt.le at *
  rw [decide_eq_true_eq] at *
  rw [Pt.mk.injEq]
  simp only at *
  omega
def sortP (L : List Pt) : List Pt := L.mergeSort Pt.le
theorem sortP_perm (L : List Pt) : (sortP L).Perm L := List.mergeSort_perm L _
theorem sortP_len (L : List Pt) : (sortP L).length = L.length := (sortP_perm L).length_eq
theorem sortP_le (L : List Pt) : (sortP L).Pairwise (fun a b => a.le b = true) :=
  List.pairwise_mergeSort (le := Pt.le) (fun _ _ _ => le_trans) le_total L
theorem sortP_eq {L M : List Pt} (hp : M.Perm L) (hs : M.Pairwise (fun a b => a.le b = true)) : sortP L = M :=
  List.Perm.eq_of_pairwise (le := fun a b => a.le b = true) (fun a b _ _ h1 h2 => le_anti h1 h2) (sortP_le L) hs ((sortP_perm L).trans hp.symm)
/-- A point put in at a place. -/
def mid {α : Type} (S : List α) (a : Nat) (y : α) : List α := S.take a ++ y :: S.drop a
theorem mid_len {α : Type} (S : List α) (a : Nat) (y : α) : (mid S a y).length = S.length + 1 := by
  simp [mid]; omega
theorem mid_set {α : Type} {S : List α} {a : Nat} (h : a ≤ S.length) (y x : α) : (mid S a y).set a x = mid S a x := by
  unfold mid; rw [List.set_append]; simp [Nat.min_eq_left h]
theorem mid_end {α : Type} (S : List α) (y : α) : mid S S.length y = S ++ [y] := by simp [mid]
theorem mid_step {α : Type} {S : List α} {a : Nat} {z : α} (h : S[a]? = some z) (y : α) : (mid S (a + 1) y).set (a + 1) z = mid S a z := by
  have hl : a < S.length := (List.getElem?_eq_some_iff.1 h).1
  rw [mid_set (by omega)]
  unfold mid
  rw [List.take_add_one, h, List.drop_eq_getElem_cons hl, (List.getElem?_eq_some_iff.1 h).2]
  simp
theorem mid_get {α : Type} {S : List α} {a p : Nat} (hp : p < a) (h : a ≤ S.length) (y : α) : (mid S a y)[p]? = S[p]? := by
  unfold mid; rw [List.getElem?_append_left (by rw [List.length_take]; omega), List.getElem?_take_of_lt hp]
theorem mid_at {α : Type} {S : List α} {a : Nat} (h : a ≤ S.length) (y : α) : (mid S a y)[a]? = some y := by
  unfold mid; rw [List.getElem?_append_right (by rw [List.length_take]; omega)]; simp [Nat.min_eq_left h]
theorem mid_perm {α : Type} (S : List α) (a : Nat) (y : α) : (mid S a y).Perm (S ++ [y]) := by
  have h1 : (mid S a y).Perm (y :: (S.take a ++ S.drop a)) := List.perm_middle
  rw [List.take_append_drop] at h1
  exact h1.trans (List.perm_append_singleton y S).symm
/-- A point put in where none before it stands behind it, and all that come stand behind it. -/
theorem mid_sort {L S : List Pt} {a : Nat} {x : Pt} (hS : S = sortP L) (h1 : a = 0 ∨ ∃ z, S[a - 1]? = some z ∧ z.le x = true) (ha : a ≤ S.length) (h2 : ∀ z ∈ S.drop a, x.le z = true) : sortP (L ++ [x]) = mid S a x := by
  subst hS
  have hs := sortP_le L
  apply sortP_eq
  · exact (mid_perm _ _ _).trans ((sortP_perm L).append_right [x])
  · have hd : (List.take a (sortP L) ++ List.drop a (sortP L)).Pairwise (fun a b => a.le b = true) := by rw [List.take_append_drop]; exact hs
    rw [List.pairwise_append] at hd
    have hle : ∀ z ∈ (sortP L).take a, z.le x = true := by
      intro z hz
      rcases h1 with h0 | ⟨u, hu, hux⟩
      · subst h0; simp at hz
      · obtain ⟨i, hi, rfl⟩ := List.mem_iff_getElem.1 hz
        simp at hi
        rw [List.getElem_take]
        by_cases he : i = a - 1
        · subst he
          rw [(List.getElem?_eq_some_iff.1 hu).2]; exact hux
        · have h3 := List.pairwise_iff_getElem.1 hs i (a - 1) (by omega) (by omega) (by omega)
          rw [(List.getElem?_eq_some_iff.1 hu).2] at h3
          exact le_trans h3 hux
    unfold mid
    rw [List.pairwise_append, List.pairwise_cons]
    refine ⟨hd.1, ⟨h2, hd.2.1⟩, ?_⟩
    intro u hu v hv
    rcases List.mem_cons.1 hv with rfl | hv
    · exact hle u hu
    · exact hd.2.2 u hu v hv
end Go.Proofs.Ytkalbiihehcjkaa.Rg
