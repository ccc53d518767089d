/- Ring: what begins' search asks of a point. -/
import Derived.Test.YtkalbiihehcjkaaRg9
set_option linter.unusedVariables false
namespace Go.Proofs.Ytkalbiihehcjkaa.Rg
open Go.RowKit Go.Proofs.Ytkalbiihehcjkaa
set_option linter.unusedSimpArgs false
theorem cmpI_neg (a b : Int) : cmpI a b < 0 ↔ a < b := by
  unfold cmpI; (repeat' split) <;> omega
theorem cmpI_zero (a b : Int) : cmpI a b = 0 ↔ a = b := by
  unfold cmpI; (repeat' split) <;> omega
set_option maxHeartbeats 2000000 in
theorem at_c (p : Pt) (h : Int) (w : World) : Calls Try.prog 51 #[p.a, .int .u64 h] w fun e w' => e = .returned (.int .i64 (cmpI p.h h)) ∧ Below w.heap.size w w' := by
  have G1 := K.H.mk (fun W => cmp_u64_c p.h h W)
  generalize cmpI p.h h = r at *
  go_enter Try.func51, Try.ntmps51
  go_wp2_with (first | (go_at_call 47; (with_reducible refine (G1.out _).mono ?_); rintro e w' ⟨rfl, hw'⟩; have hw'2 := Eq.symm hw'; clear hw'; subst hw'2))
  go_ret
  exact ⟨rfl, (by repeat (first | (with_reducible exact Below.refl _ _) | (with_reducible refine K.b_bel ?_ (by assumption)) | (with_reducible refine K.b_alloc ?_ _) | (with_reducible refine K.b_drewN ?_ _) | (with_reducible refine K.b_drew ?_) | (with_reducible refine K.b_set ?_ (by first | omega | (simp <;> omega)) _) | (with_reducible refine K.b_only ?_ (by assumption) (by first | omega | (simp <;> omega)))))⟩
/-- How many points stand ahead of a hash. -/
def ahead (l : List Pt) (h : Int) : Nat := l.countP fun p => decide (p.h < h)
theorem ahead_at {l : List Pt} {h : Int} {m : Nat} (hm : m ≤ l.length) (h1 : ∀ (j : Nat) (y : Pt), j < m → l[j]? = some y → y.h < h) (h2 : ∀ (j : Nat) (y : Pt), m ≤ j → l[j]? = some y → ¬ y.h < h) : ahead l h = m := by
  unfold ahead
  have e : l.countP (fun p => decide (p.h < h)) = (l.take m).countP (fun p => decide (p.h < h)) + (l.drop m).countP (fun p => decide (p.h < h)) := by
    rw [← List.countP_append, List.take_append_drop]
  have e1 : (l.take m).countP (fun p => decide (p.h < h)) = (l.take m).length := by
    rw [List.countP_eq_length]
    intro y hy
    obtain ⟨j, hj, rfl⟩ := List.getElem_of_mem hy
    rw [List.length_take] at hj
    rw [List.getElem_take]
    simpa using h1 j _ (by omega) (List.getElem?_eq_getElem (by omega))
  have e2 : (l.drop m).countP (fun p => decide (p.h < h)) = 0 := by
    rw [List.countP_eq_zero]
    intro y hy
    obtain ⟨j, hj, rfl⟩ := List.getElem_of_mem hy
    rw [List.length_drop] at hj
    rw [List.getElem_drop]
    simpa using h2 (m + j) _ (by omega) (List.getElem?_eq_getElem (by omega))
  rw [e, e1, e2, List.length_take]; omega
end Go.Proofs.Ytkalbiihehcjkaa.Rg
