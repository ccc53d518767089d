/- SubsetChanges: the walk. -/
import Derived.Test.YtpafbjffecpdmaaSb11
set_option linter.unusedVariables false
namespace Go.Proofs.Ytpafbjffecpdmaa.Sb
open Go.RowKit Go.Proofs.Ytpafbjffecpdmaa
attribute [local go_sem] K.max2_int K.min2_int K.max_two K.min_two K.max_three K.min_three
set_option linter.unusedSimpArgs false
theorem woL_has (l M : List Int) (y : Int) : hasB (woL l M) y = (hasB l y && !hasB M y) := by
  rw [Bool.eq_iff_iff, hasB_iff, woL_mem, Bool.and_eq_true, hasB_iff, Bool.not_eq_true', hasB_f]
set_option maxRecDepth 100000 in
set_option maxHeartbeats 4000000 in
theorem Changes_c (l M : List Int) (y : Int) (A A2 : Option Addr) (n c n2 c2 : Nat) (w : World) (hr : Sl.Rds w 1 A n (l.flatMap fun n => [.int .i64 n])) (hr2 : Sl.Rds w 1 A2 n2 (M.flatMap fun n => [.int .i64 n])) (hn : n * 8 ≤ 140737488355328) (hn2 : n2 * 8 ≤ 140737488355328) :
    Calls Try.prog 7 #[.slice A n c, .slice A2 n2 c2, .int .i64 y] w fun e w' => e = .returned (.bool true) ∧ Below w.heap.size w w' := by
  have GC := K.H.mk (fun (W : World) (hb : Below w.heap.size w W) => Change_c l M A A2 n c n2 c2 W (hr.below hb) (hr2.below hb) hn hn2)
  have G1 := K.H.mk (fun (W : World) (hb : Below w.heap.size w W) => has_c l y A n c W (hr.below hb))
  have G2 := K.H.mk (fun (W : World) (hb : Below w.heap.size w W) => has_c M y A2 n2 c2 W (hr2.below hb))
  have h3 := woL_has M l y
  have h4 := woL_has l M y
  have G3 := K.H.mk (fun (W : World) (B : Option Addr) (d : Nat) (hR : Sl.Rds W 1 B (woL M l).length ((woL M l).flatMap fun n => [.int .i64 n])) => has_c (woL M l) y B (woL M l).length d W hR)
  have G4 := K.H.mk (fun (W : World) (B : Option Addr) (d : Nat) (hR : Sl.Rds W 1 B (woL l M).length ((woL l M).flatMap fun n => [.int .i64 n])) => has_c (woL l M) y B (woL l M).length d W hR)
  rw [h3] at G3
  rw [h4] at G4
  clear hr hr2 h3 h4
  generalize woL M l = X at *
  generalize woL l M = Y at *
  cases hp : hasB l y <;> cases hq : hasB M y
  all_goals
    rw [hp] at G1
    rw [hq] at G2
    rw [hp, hq] at G3 G4
    clear hp hq
    go_enter Try.func7, Try.ntmps7
    go_wp2_with (first
      | (go_at_call 9; (with_reducible refine (alive_c _).mono ?_); rintro e W1 ⟨rfl, hb1⟩; obtain ⟨hB1, hC1, hF1, hZ1⟩ := K.bel_facts hb1; clear hb1)
      | (go_at_call 18; (with_reducible refine (GC.out _ (by repeat (first | (with_reducible exact Below.refl _ _) | (with_reducible refine K.b_bel ?_ (by assumption)) | (with_reducible refine K.b_alloc ?_ _) | (with_reducible refine K.b_drewN ?_ _) | (with_reducible refine K.b_drew ?_) | (with_reducible refine K.b_set ?_ (by first | omega | (simp <;> omega)) _) | (with_reducible refine K.b_only ?_ (by assumption) (by first | omega | (simp <;> omega)))))).mono ?_); rintro e W2 ⟨v2, u2, rfl, hown2, hown3, hb2⟩; obtain ⟨hB2, hC2, hF2, hZ2⟩ := K.bel_facts hb2; clear hb2; obtain ⟨B2, d2, rfl, hR2⟩ := Sl.Rds.of_own hown2; obtain ⟨B3, d3, rfl, hR3⟩ := Sl.Rds.of_own hown3; rw [← flat_iv] at hR2 hR3; clear hown2 hown3)
      | (go_at_call 12; first
        | (go_at_call 12; (with_reducible refine (G1.out _ (by repeat (first | (with_reducible exact Below.refl _ _) | (with_reducible refine K.b_bel ?_ (by assumption)) | (with_reducible refine K.b_alloc ?_ _) | (with_reducible refine K.b_drewN ?_ _) | (with_reducible refine K.b_drew ?_) | (with_reducible refine K.b_set ?_ (by first | omega | (simp <;> omega)) _) | (with_reducible refine K.b_only ?_ (by assumption) (by first | omega | (simp <;> omega)))))).mono ?_); rintro e w' ⟨rfl, hw'⟩; have hw'2 := Eq.symm hw'; clear hw'; subst hw'2)
        | (go_at_call 12; (with_reducible refine (G2.out _ (by repeat (first | (with_reducible exact Below.refl _ _) | (with_reducible refine K.b_bel ?_ (by assumption)) | (with_reducible refine K.b_alloc ?_ _) | (with_reducible refine K.b_drewN ?_ _) | (with_reducible refine K.b_drew ?_) | (with_reducible refine K.b_set ?_ (by first | omega | (simp <;> omega)) _) | (with_reducible refine K.b_only ?_ (by assumption) (by first | omega | (simp <;> omega)))))).mono ?_); rintro e w' ⟨rfl, hw'⟩; have hw'2 := Eq.symm hw'; clear hw'; subst hw'2)
        | (go_at_call 12; (with_reducible refine (G3.out _ _ _ hR2).mono ?_); rintro e w' ⟨rfl, hw'⟩; have hw'2 := Eq.symm hw'; clear hw'; subst hw'2)
        | (go_at_call 12; (with_reducible refine (G4.out _ _ _ hR3).mono ?_); rintro e w' ⟨rfl, hw'⟩; have hw'2 := Eq.symm hw'; clear hw'; subst hw'2)))
    go_ret
    exact ⟨rfl, (by repeat (first | (with_reducible exact Below.refl _ _) | (with_reducible refine K.b_bel ?_ (by assumption)) | (with_reducible refine K.b_alloc ?_ _) | (with_reducible refine K.b_drewN ?_ _) | (with_reducible refine K.b_drew ?_) | (with_reducible refine K.b_set ?_ (by first | omega | (simp <;> omega)) _) | (with_reducible refine K.b_only ?_ (by assumption) (by first | omega | (simp <;> omega)))))⟩
end Go.Proofs.Ytpafbjffecpdmaa.Sb
