/- The walks of the breaker's methods. -/
import Derived.Test.YtkckehpcdjlcpaaBrkW1
namespace Go.Proofs.Ytkckehpcdjlcpaa.Brk
open Go.RowKit Go.Proofs.Ytkckehpcdjlcpaa
attribute [local go_sem] K.max2_int K.min2_int K.max_two K.min_two K.max_three K.min_three
set_option linter.unusedVariables false
set_option linter.unusedSimpArgs false

set_option maxRecDepth 100000 in
set_option maxHeartbeats 1000000 in
theorem on_c (b : B) (s : S) (t : Int) (g : Nat) (w : World) (h : K.At w g 54 (mach b s t)) : Calls Try.prog 20 #[.pointer (some ⟨g, 0, none⟩)] w fun e w' =>
    e = .returned (.tuple #[]) ∧ K.At w' g 54 (mach (on b t) s t) ∧ w.grownBy w' (some g) := by
  obtain ⟨hc0, hf0, hl0⟩ := K.At.facts h
  go_enter Try.func20, Try.ntmps20
  go_wp2
  refine K.wp_region_ext_lit (by kernel_rfl) (by kernel_rfl) ?_
  repeat (any_goals (first | go_big_quiet_skip | quiet_step (fail) | (refine wpQuiet_step (fun K hK => ?_); go_simp; split <;> (refine hK _ ?_; clear hK K))))
  all_goals (refine wpQuiet_nil ?_; intro W1 hW1; obtain ⟨hB1, hC1, hF1, hZ1⟩ := K.ext_facts hW1; clear hW1; have h_1 := K.At.bel h hB1)
  all_goals go_wp2
  all_goals (go_end0; exact ⟨rfl, (by refine K.At.cast (by repeat (first | (with_reducible exact h_1) | (with_reducible apply K.At.set) | (with_reducible apply K.At.alloc) | (with_reducible apply K.At.drewN) | (with_reducible apply K.At.drew) | (with_reducible apply K.At.far) | omega | (simp <;> omega))) ?_; (first | (simp [on, mach, *]; done) | (simp only [on, mach]; (repeat' split) <;> (first | rfl | (exfalso; omega) | (simp_all; done) | (simp_all; omega))))), (by repeat (first | (with_reducible exact K.o_refl _ _) | (with_reducible refine K.o_only ?_ (by assumption)) | (with_reducible refine K.o_bel ?_ (by assumption)) | (with_reducible refine K.o_alloc ?_ _) | (with_reducible refine K.o_drewN ?_ _) | (with_reducible refine K.o_drew ?_) | (with_reducible refine K.o_set ?_ _ _)))⟩)

set_option maxHeartbeats 1000000 in
theorem allows_c (b : B) (s : S) (t : Int) (g : Nat) (w : World) (h : K.At w g 54 (mach b s t)) : Calls Try.prog 21 #[.pointer (some ⟨g, 0, none⟩)] w fun e w' =>
    e = .returned (.bool (allows b s)) ∧ Below w.heap.size w w' := by
  obtain ⟨hc0, hf0, hl0⟩ := K.At.facts h
  go_enter Try.func21, Try.ntmps21
  go_wp2
  refine K.wp_region_ext_lit (by kernel_rfl) (by kernel_rfl) ?_
  repeat (any_goals (first | go_big_quiet_skip | quiet_step (fail) | (refine wpQuiet_step (fun K hK => ?_); go_simp; split <;> (refine hK _ ?_; clear hK K))))
  all_goals (refine wpQuiet_nil ?_; intro W1 hW1; obtain ⟨hB1, hC1, hF1, hZ1⟩ := K.ext_facts hW1; clear hW1; have h_1 := K.At.bel h hB1)
  all_goals go_wp2
  all_goals (go_ret; exact ⟨K.ret_bool (by (first | (simp [allows, *]; done) | (simp only [allows]; (repeat' split) <;> (first | rfl | (exfalso; omega) | (simp_all; done) | (simp_all; omega))))), (by repeat (first | (with_reducible exact Below.refl _ _) | (with_reducible refine K.b_bel ?_ (by assumption)) | (with_reducible refine K.b_alloc ?_ _) | (with_reducible refine K.b_drewN ?_ _) | (with_reducible refine K.b_drew ?_) | (with_reducible refine K.b_set ?_ (by first | omega | (simp <;> omega)) _) | (with_reducible refine K.b_only ?_ (by assumption) (by first | omega | (simp <;> omega)))))⟩)

set_option maxRecDepth 100000 in
set_option maxHeartbeats 1000000 in
theorem trip_c (b : B) (s : S) (t : Int) (g : Nat) (w : World) (hz : wrap64 (t + s.opn) = t + s.opn) (h : K.At w g 54 (mach b s t)) : Calls Try.prog 37 #[.pointer (some ⟨g, 0, none⟩)] w fun e w' =>
    e = .returned (.tuple #[]) ∧ K.At w' g 54 (mach (trip b s t) s t) ∧ w.grownBy w' (some g) := by
  obtain ⟨hc0, hf0, hl0⟩ := K.At.facts h
  go_enter Try.func37, Try.ntmps37
  go_region
  all_goals (go_end0; exact ⟨rfl, (by refine K.At.cast (by repeat (first | (with_reducible exact h) | (with_reducible apply K.At.set) | (with_reducible apply K.At.alloc) | (with_reducible apply K.At.drewN) | (with_reducible apply K.At.drew) | (with_reducible apply K.At.far) | omega | (simp <;> omega))) ?_; (first | (simp [trip, mach, *]; done) | (simp only [trip, mach]; (repeat' split) <;> (first | rfl | (exfalso; omega) | (simp_all; done) | (simp_all; omega))))), (by repeat (first | (with_reducible exact K.o_refl _ _) | (with_reducible refine K.o_only ?_ (by assumption)) | (with_reducible refine K.o_bel ?_ (by assumption)) | (with_reducible refine K.o_alloc ?_ _) | (with_reducible refine K.o_drewN ?_ _) | (with_reducible refine K.o_drew ?_) | (with_reducible refine K.o_set ?_ _ _)))⟩)
end Go.Proofs.Ytkckehpcdjlcpaa.Brk
