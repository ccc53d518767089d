/- The walks of the breaker's functions. -/
import Derived.Test.YtkckehpcdjlcpaaK
import Derived.Test.YtkckehpcdjlcpaaBrk
namespace Go.Proofs.Ytkckehpcdjlcpaa.Brk
open Go.RowKit Go.Proofs.Ytkckehpcdjlcpaa
attribute [local go_sem] K.max2_int K.min2_int K.max_two K.min_two K.max_three K.min_three
set_option linter.unusedVariables false
set_option linter.unusedSimpArgs false

theorem in_c (n a b : Int) (w : World) : Calls Try.prog 24 #[.int .i64 n, .int .i64 a, .int .i64 b] w fun e w' => e = .returned (.bool (inB n a b)) ∧ w' = w := by
  go_enter Try.func24, Try.ntmps24
  go_wp2
  all_goals (go_ret; exact ⟨K.ret_bool (by simp [inB]; try omega), rfl⟩)

abbrev B.a (b : B) : Value := .agg #[.int .i64 b.mode, .int .i64 b.fails, .int .i64 b.til, .int .i64 b.probes, .int .i64 b.wins]
abbrev S.a (s : S) : Value := .agg #[.int .i64 s.fails, .int .i64 s.opn, .int .i64 s.probes]
abbrev mach (b : B) (s : S) (t : Int) : Array Value := #[.int .i64 b.mode, .int .i64 b.fails, .int .i64 b.til, .int .i64 b.probes, .int .i64 b.wins, .int .i64 s.fails, .int .i64 s.opn, .int .i64 s.probes, .int .i64 t]

theorem sets_c (s : S) (w : World) : Calls Try.prog 23 #[s.a] w fun e w' => e = .returned (.bool (sets s)) ∧ Below w.heap.size w w' := by
  go_enter Try.func23, Try.ntmps23
  go_wp2_with (go_at_call 24; (with_reducible refine (in_c _ _ _ _).mono ?_); rintro e w' ⟨rfl, hw'⟩; have hw'2 := Eq.symm hw'; clear hw'; subst hw'2)
  all_goals (go_ret; exact ⟨K.ret_bool (by simp [sets, *]), (by repeat (first | (with_reducible exact Below.refl _ _) | (with_reducible refine K.b_bel ?_ (by assumption)) | (with_reducible refine K.b_alloc ?_ _) | (with_reducible refine K.b_drewN ?_ _) | (with_reducible refine K.b_drew ?_) | (with_reducible refine K.b_set ?_ (by first | omega | (simp <;> omega)) _) | (with_reducible refine K.b_only ?_ (by assumption) (by first | omega | (simp <;> omega)))))⟩)

set_option maxHeartbeats 1000000 in
theorem chk_c (b : B) (s : S) (t : Int) (w : World) : Calls Try.prog 13 #[b.a, s.a, .int .i64 t] w fun e w' => e = .returned (.int .i64 (chk b s t)) ∧ Below w.heap.size w w' := by
  go_enter Try.func13, Try.ntmps13
  go_wp2_with (first | (go_at_call 24; (with_reducible refine (in_c _ _ _ _).mono ?_); rintro e w' ⟨rfl, hw'⟩; have hw'2 := Eq.symm hw'; clear hw'; subst hw'2) | (go_at_call 23; (with_reducible refine (sets_c s _).mono ?_); rintro e W1 ⟨rfl, hb1⟩; obtain ⟨hB1, hC1, hF1, hZ1⟩ := K.bel_facts hb1; clear hb1))
  all_goals (go_ret; exact ⟨K.ret_int (by (try clear hC1 hF1 hZ1); simp_all [chk, state]), (by repeat (first | (with_reducible exact Below.refl _ _) | (with_reducible refine K.b_bel ?_ (by assumption)) | (with_reducible refine K.b_alloc ?_ _) | (with_reducible refine K.b_drewN ?_ _) | (with_reducible refine K.b_drew ?_) | (with_reducible refine K.b_set ?_ (by first | omega | (simp <;> omega)) _) | (with_reducible refine K.b_only ?_ (by assumption) (by first | omega | (simp <;> omega)))))⟩)

set_option maxHeartbeats 1000000 in
theorem ask_ok (b : B) (s : S) (t : Int) (w : World) (h : chk b s t = 0) : Calls Try.prog 19 #[b.a, s.a, .int .i64 t] w fun e w' =>
    ∃ g, w.heap.size ≤ g ∧ e = .returned (.tuple #[.pointer (some ⟨g, 0, none⟩), .int .i64 0]) ∧ K.At w' g 54 (mach b s t) ∧ Below w.heap.size w w' := by
  go_enter Try.func19, Try.ntmps19
  go_wp2_with (go_at_call 13; (with_reducible refine (chk_c b s t _).mono ?_); rintro e W1 ⟨rfl, hb1⟩; obtain ⟨hB1, hC1, hF1, hZ1⟩ := K.bel_facts hb1; clear hb1)
  go_ret2
  exact ⟨W1.heap.size, by simp at hZ1; omega, by simp, K.At.new _ _ _, (by repeat (first | (with_reducible exact Below.refl _ _) | (with_reducible refine K.b_bel ?_ (by assumption)) | (with_reducible refine K.b_alloc ?_ _) | (with_reducible refine K.b_drewN ?_ _) | (with_reducible refine K.b_drew ?_) | (with_reducible refine K.b_set ?_ (by first | omega | (simp <;> omega)) _) | (with_reducible refine K.b_only ?_ (by assumption) (by first | omega | (simp <;> omega)))))⟩

set_option maxHeartbeats 1000000 in
theorem ask_no (b : B) (s : S) (t : Int) (w : World) (h : ¬ chk b s t = 0) : Calls Try.prog 19 #[b.a, s.a, .int .i64 t] w fun e w' =>
    ∃ g, w.heap.size ≤ g ∧ e = .returned (.tuple #[.pointer (some ⟨g, 0, none⟩), .int .i64 (chk b s t)]) ∧ K.At w' g 54 (mach zero ⟨0, 0, 0⟩ 0) ∧ Below w.heap.size w w' := by
  have h2 : (chk b s t != 0) = true := by simpa using h
  clear h
  go_enter Try.func19, Try.ntmps19
  go_wp2_with (go_at_call 13; (with_reducible refine (chk_c b s t _).mono ?_); rintro e W1 ⟨rfl, hb1⟩; obtain ⟨hB1, hC1, hF1, hZ1⟩ := K.bel_facts hb1; clear hb1)
  go_ret2
  exact ⟨W1.heap.size, by simp at hZ1; omega, by simp, K.At.new _ _ _, (by repeat (first | (with_reducible exact Below.refl _ _) | (with_reducible refine K.b_bel ?_ (by assumption)) | (with_reducible refine K.b_alloc ?_ _) | (with_reducible refine K.b_drewN ?_ _) | (with_reducible refine K.b_drew ?_) | (with_reducible refine K.b_set ?_ (by first | omega | (simp <;> omega)) _) | (with_reducible refine K.b_only ?_ (by assumption) (by first | omega | (simp <;> omega)))))⟩

end Go.Proofs.Ytkckehpcdjlcpaa.Brk
