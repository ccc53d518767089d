/- Ring: Build, plain: the points of backends. -/
import Derived.Test.YtkalbiihehcjkaaRg15
import Derived.Test.YtkalbiihehcjkaaRgH
set_option linter.unusedVariables false
namespace Go.Proofs.Ytkalbiihehcjkaa.Rg
open Go.RowKit Go.Proofs.Ytkalbiihehcjkaa
set_option linter.unusedSimpArgs false
def ptAt (b : Bk) (k : Nat) : Pt := ⟨(Sb.intsN 1 [b.id, (k : Int)] : Nat), b.id⟩
def rowOf (b : Bk) (m : Nat) : List Pt := (List.range m).map (ptAt b)
theorem rowOf_succ (b : Bk) (m : Nat) : rowOf b (m + 1) = rowOf b m ++ [ptAt b m] := by simp [rowOf, List.range_succ]
theorem rowOf_len (b : Bk) (m : Nat) : (rowOf b m).length = m := by simp [rowOf]
def cnt (p : Int) (b : Bk) : Nat := (p * b.wt).toNat
def rawTo (p : Int) (l : List Bk) : List Pt := l.flatMap fun b => rowOf b (cnt p b)
theorem rawTo_take {p : Int} {l : List Bk} {k : Nat} {x : Bk} (h : l[k]? = some x) : rawTo p (l.take (k + 1)) = rawTo p (l.take k) ++ rowOf x (cnt p x) := by
  unfold rawTo; rw [List.take_add_one, h, Option.toList_some, List.flatMap_append]; simp
def eBuild (p : Int) (l : List Bk) : Int := if eChk l = 0 then (if p < 1 ∨ 64 < p then 4 else if 1024 < (rawTo p l).length then 5 else 0) else eChk l
def oBuild (p : Int) (l : List Bk) : List Pt := if eBuild p l = 0 then sortP (rawTo p l) else []
theorem eChk_fine {l : List Bk} (h : eChk l = 0) : l.length ≤ 32 ∧ (∀ x ∈ l, 0 ≤ x.id ∧ x.id ≤ 2147483647 ∧ 1 ≤ x.wt ∧ x.wt ≤ 16) ∧ ris l = true := by
  unfold eChk at h
  split at h
  · omega
  · split at h
    · omega
    · rename_i h1 h2
      split at h
      · rename_i h3
        refine ⟨by omega, fun x hx => ?_, h3⟩
        have h4 : Sl.anyOf Bk.odd l = false := by simpa using h2
        have h5 := Sl.anyOf_false h4 x hx
        unfold Bk.odd at h5
        simp only [Bool.or_eq_false_iff, decide_eq_false_iff_not] at h5
        omega
      · omega
theorem cnt_le {p : Int} {x : Bk} (h1 : 1 ≤ p) (h2 : p ≤ 64) (h3 : 1 ≤ x.wt) (h4 : x.wt ≤ 16) : ((cnt p x : Nat) : Int) = p * x.wt ∧ cnt p x ≤ 1024 := by
  have h5 : 0 ≤ p * x.wt := Int.mul_nonneg (by omega) (by omega)
  have h6 : p * x.wt ≤ 64 * 16 := Int.mul_le_mul h2 h4 (by omega) (by omega)
  unfold cnt
  omega
theorem rawTo_len {p : Int} {l : List Bk} (h1 : 1 ≤ p) (h2 : p ≤ 64) (h : ∀ x ∈ l, 1 ≤ x.wt ∧ x.wt ≤ 16) : (rawTo p l).length ≤ 1024 * l.length := by
  induction l with
  | nil => simp [rawTo]
  | cons x r ih =>
    have hx := h x (by simp)
    have h3 := (cnt_le h1 h2 hx.1 hx.2).2
    have h4 := ih (fun y hy => h y (by simp [hy]))
    unfold rawTo at *
    rw [List.flatMap_cons, List.length_append, rowOf_len, List.length_cons]
    omega
end Go.Proofs.Ytkalbiihehcjkaa.Rg
