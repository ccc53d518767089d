/- The walks of the breaker's methods, and of what is called from outside. -/
import Derived.Test.YtkckehpcdjlcpaaBrkW2
namespace Go.Proofs.Ytkckehpcdjlcpaa.Brk
open Go.RowKit Go.Proofs.Ytkckehpcdjlcpaa
attribute [local go_sem] K.max2_int K.min2_int K.max_two K.min_two K.max_three K.min_three
set_option linter.unusedVariables false
set_option linter.unusedSimpArgs false

set_option maxHeartbeats 1000000 in
theorem fails_c (b : B) (s : S) (t : Int) (g : Nat) (w : World) (hz : wrap64 (t + s.opn) = t + s.opn) (h0 : 0 ≤ b.fails) (h1 : b.fails ≤ 1000) (h : K.At w g 54 (mach b s t)) : Calls Try.prog 35 #[.pointer (some ⟨g, 0, none⟩)] w fun e w' =>
    e = .returned (.tuple #[]) ∧ K.At w' g 54 (mach (fails b s t) s t) ∧ w.grownBy w' (some g) := by
  obtain ⟨hc0, hf0, hl0⟩ := K.At.facts h
  have Hz := K.H.mk hz
  clear hz
  go_enter Try.func35, Try.ntmps35
  go_wp2
  refine K.wp_gen (fun W => K.At W g 54 (mach {b with fails := b.fails + 1} s t) ∧ w.grownBy W (some g)) ⟨(by refine K.At.cast (by repeat (first | (with_reducible exact h) | (with_reducible apply K.At.set) | (with_reducible apply K.At.alloc) | (with_reducible apply K.At.drewN) | (with_reducible apply K.At.drew) | (with_reducible apply K.At.far) | omega | (simp <;> omega))) ?_; (first | (simp [mach, *]; done) | (simp only [mach]; (repeat' split) <;> (first | rfl | (exfalso; omega) | (simp_all; done) | (simp_all; omega))))), (by repeat (first | (with_reducible exact K.o_refl _ _) | (with_reducible refine K.o_only ?_ (by assumption)) | (with_reducible refine K.o_bel ?_ (by assumption)) | (with_reducible refine K.o_alloc ?_ _) | (with_reducible refine K.o_drewN ?_ _) | (with_reducible refine K.o_drew ?_) | (with_reducible refine K.o_set ?_ _ _)))⟩ ?_
  rintro W1 ⟨hA1, ho1⟩
  have hO1 := K.Only.mk ho1
  clear ho1
  obtain ⟨hc1, hf1, hl1⟩ := K.At.facts hA1
  refine K.wp_region_ext_lit (by kernel_rfl) (by kernel_rfl) ?_
  repeat (any_goals (first | go_big_quiet_skip | quiet_step (fail) | (refine wpQuiet_step (fun K hK => ?_); go_simp; split <;> (refine hK _ ?_; clear hK K))))
  all_goals (refine wpQuiet_nil ?_; intro W2 hW2; obtain ⟨hB2, hC2, hF2, hZ2⟩ := K.ext_facts hW2; clear hW2; have hA1_2 := K.At.bel hA1 hB2)
  go_wp2_with (go_at_call 37; (with_reducible refine (trip_c {b with fails := b.fails + 1} s t g _ Hz.out (by assumption)).mono ?_); rintro e W3 ⟨rfl, hA3, ho3⟩; have hO3 := K.Only.mk ho3; clear ho3; obtain ⟨hC3, hF3, hZ3⟩ := K.only_facts hO3; obtain ⟨hc3, hf3, hl3⟩ := K.At.facts hA3)
  all_goals first
    | (go_end0; exact ⟨rfl, (by refine K.At.cast (by repeat (first | (with_reducible exact hA3) | (with_reducible apply K.At.set) | (with_reducible apply K.At.alloc) | (with_reducible apply K.At.drewN) | (with_reducible apply K.At.drew) | (with_reducible apply K.At.far) | omega | (simp <;> omega))) ?_; (first | (simp [trip, fails, mach, *]; done) | (simp only [trip, fails, mach]; (repeat' split) <;> (first | rfl | (exfalso; omega) | (simp_all; done) | (simp_all; omega))))), (by repeat (first | (with_reducible exact K.o_refl _ _) | (with_reducible refine K.o_only ?_ (by assumption)) | (with_reducible refine K.o_bel ?_ (by assumption)) | (with_reducible refine K.o_alloc ?_ _) | (with_reducible refine K.o_drewN ?_ _) | (with_reducible refine K.o_drew ?_) | (with_reducible refine K.o_set ?_ _ _)))⟩)
    | (go_end0; exact ⟨rfl, (by refine K.At.cast (by repeat (first | (with_reducible exact hA1_2) | (with_reducible apply K.At.set) | (with_reducible apply K.At.alloc) | (with_reducible apply K.At.drewN) | (with_reducible apply K.At.drew) | (with_reducible apply K.At.far) | omega | (simp <;> omega))) ?_; (first | (simp [trip, fails, mach, *]; done) | (simp only [trip, fails, mach]; (repeat' split) <;> (first | rfl | (exfalso; omega) | (simp_all; done) | (simp_all; omega))))), (by repeat (first | (with_reducible exact K.o_refl _ _) | (with_reducible refine K.o_only ?_ (by assumption)) | (with_reducible refine K.o_bel ?_ (by assumption)) | (with_reducible refine K.o_alloc ?_ _) | (with_reducible refine K.o_drewN ?_ _) | (with_reducible refine K.o_drew ?_) | (with_reducible refine K.o_set ?_ _ _)))⟩)

set_option maxHeartbeats 1000000 in
theorem wins_c (b : B) (s : S) (t : Int) (g : Nat) (w : World) (h0 : 0 ≤ b.wins) (h1 : b.wins ≤ 1000) (h : K.At w g 54 (mach b s t)) : Calls Try.prog 36 #[.pointer (some ⟨g, 0, none⟩)] w fun e w' =>
    e = .returned (.tuple #[]) ∧ K.At w' g 54 (mach (wins b s) s t) ∧ w.grownBy w' (some g) := by
  obtain ⟨hc0, hf0, hl0⟩ := K.At.facts h
  go_enter Try.func36, Try.ntmps36
  go_wp2
  refine K.wp_gen (fun W => K.At W g 54 (mach {b with wins := b.wins + 1} s t) ∧ w.grownBy W (some g)) ⟨(by refine K.At.cast (by repeat (first | (with_reducible exact h) | (with_reducible apply K.At.set) | (with_reducible apply K.At.alloc) | (with_reducible apply K.At.drewN) | (with_reducible apply K.At.drew) | (with_reducible apply K.At.far) | omega | (simp <;> omega))) ?_; (first | (simp [mach, *]; done) | (simp only [mach]; (repeat' split) <;> (first | rfl | (exfalso; omega) | (simp_all; done) | (simp_all; omega))))), (by repeat (first | (with_reducible exact K.o_refl _ _) | (with_reducible refine K.o_only ?_ (by assumption)) | (with_reducible refine K.o_bel ?_ (by assumption)) | (with_reducible refine K.o_alloc ?_ _) | (with_reducible refine K.o_drewN ?_ _) | (with_reducible refine K.o_drew ?_) | (with_reducible refine K.o_set ?_ _ _)))⟩ ?_
  rintro W1 ⟨hA1, ho1⟩
  have hO1 := K.Only.mk ho1
  clear ho1
  obtain ⟨hc1, hf1, hl1⟩ := K.At.facts hA1
  refine K.wp_region_ext_lit (by kernel_rfl) (by kernel_rfl) ?_
  repeat (any_goals (first | go_big_quiet_skip | quiet_step (fail) | (refine wpQuiet_step (fun K hK => ?_); go_simp; split <;> (refine hK _ ?_; clear hK K))))
  all_goals (refine wpQuiet_nil ?_; intro W2 hW2; obtain ⟨hB2, hC2, hF2, hZ2⟩ := K.ext_facts hW2; clear hW2; have hA1_2 := K.At.bel hA1 hB2)
  go_wp2
  all_goals (go_end0; exact ⟨rfl, (by refine K.At.cast (by repeat (first | (with_reducible exact hA1_2) | (with_reducible apply K.At.set) | (with_reducible apply K.At.alloc) | (with_reducible apply K.At.drewN) | (with_reducible apply K.At.drew) | (with_reducible apply K.At.far) | omega | (simp <;> omega))) ?_; (first | (simp [wins, mach, *]; done) | (simp only [wins, mach]; (repeat' split) <;> (first | rfl | (exfalso; omega) | (simp_all; done) | (simp_all; omega))))), (by repeat (first | (with_reducible exact K.o_refl _ _) | (with_reducible refine K.o_only ?_ (by assumption)) | (with_reducible refine K.o_bel ?_ (by assumption)) | (with_reducible refine K.o_alloc ?_ _) | (with_reducible refine K.o_drewN ?_ _) | (with_reducible refine K.o_drew ?_) | (with_reducible refine K.o_set ?_ _ _)))⟩)

set_option maxHeartbeats 1000000 in
theorem ends_c (b : B) (s : S) (t : Int) (probe good : Bool) (g : Nat) (w : World) (hz : wrap64 (t + s.opn) = t + s.opn) (hb : state b = true) (h : K.At w g 54 (mach b s t)) : Calls Try.prog 22 #[.pointer (some ⟨g, 0, none⟩), .bool probe, .bool good] w fun e w' =>
    e = .returned (.tuple #[]) ∧ K.At w' g 54 (mach (ends b s t probe good) s t) ∧ w.grownBy w' (some g) := by
  obtain ⟨⟨m0, m1⟩, ⟨u0, u1⟩, ⟨f0, f1⟩, ⟨p0, p1⟩, ⟨v0, v1⟩⟩ := (state_iff b).1 hb
  obtain ⟨hc0, hf0, hl0⟩ := K.At.facts h
  have Hz := K.H.mk hz
  clear hz hb
  go_enter Try.func22, Try.ntmps22
  cases probe
  · cases good
    all_goals go_wp2_with (first | (go_at_call 35; (with_reducible refine (fails_c b s t g _ Hz.out f0 f1 (by assumption)).mono ?_); rintro e W3 ⟨rfl, hA3, ho3⟩; have hO3 := K.Only.mk ho3; clear ho3; obtain ⟨hC3, hF3, hZ3⟩ := K.only_facts hO3; obtain ⟨hc3, hf3, hl3⟩ := K.At.facts hA3))
    all_goals first
      | (go_end0; exact ⟨rfl, (by refine K.At.cast (by repeat (first | (with_reducible exact hA3) | (with_reducible apply K.At.set) | (with_reducible apply K.At.alloc) | (with_reducible apply K.At.drewN) | (with_reducible apply K.At.drew) | (with_reducible apply K.At.far) | omega | (simp <;> omega))) ?_; (first | (simp [ends, mach, *]; done) | (simp only [ends, mach]; (repeat' split) <;> (first | rfl | (exfalso; omega) | (simp_all; done) | (simp_all; omega))))), (by repeat (first | (with_reducible exact K.o_refl _ _) | (with_reducible refine K.o_only ?_ (by assumption)) | (with_reducible refine K.o_bel ?_ (by assumption)) | (with_reducible refine K.o_alloc ?_ _) | (with_reducible refine K.o_drewN ?_ _) | (with_reducible refine K.o_drew ?_) | (with_reducible refine K.o_set ?_ _ _)))⟩)
      | (go_end0; exact ⟨rfl, (by refine K.At.cast (by repeat (first | (with_reducible exact h) | (with_reducible apply K.At.set) | (with_reducible apply K.At.alloc) | (with_reducible apply K.At.drewN) | (with_reducible apply K.At.drew) | (with_reducible apply K.At.far) | omega | (simp <;> omega))) ?_; (first | (simp [ends, mach, *]; done) | (simp only [ends, mach]; (repeat' split) <;> (first | rfl | (exfalso; omega) | (simp_all; done) | (simp_all; omega))))), (by repeat (first | (with_reducible exact K.o_refl _ _) | (with_reducible refine K.o_only ?_ (by assumption)) | (with_reducible refine K.o_bel ?_ (by assumption)) | (with_reducible refine K.o_alloc ?_ _) | (with_reducible refine K.o_drewN ?_ _) | (with_reducible refine K.o_drew ?_) | (with_reducible refine K.o_set ?_ _ _)))⟩)
  · cases good
    all_goals go_wp2_with (first | (go_at_call 37; (with_reducible refine (trip_c {b with probes := K.mx (b.probes - 1) 0} s t g _ Hz.out (by refine K.At.cast (by repeat (first | (with_reducible exact h) | (with_reducible apply K.At.set) | (with_reducible apply K.At.alloc) | (with_reducible apply K.At.drewN) | (with_reducible apply K.At.drew) | (with_reducible apply K.At.far) | omega | (simp <;> omega))) ?_; (first | (simp [mach, *]; done) | (simp only [mach]; (repeat' split) <;> (first | rfl | (exfalso; omega) | (simp_all; done) | (simp_all; omega)))))).mono ?_); rintro e W3 ⟨rfl, hA3, ho3⟩; have hO3 := K.Only.mk ho3; clear ho3; obtain ⟨hC3, hF3, hZ3⟩ := K.only_facts hO3; obtain ⟨hc3, hf3, hl3⟩ := K.At.facts hA3) | (go_at_call 35; (with_reducible refine (fails_c {b with probes := K.mx (b.probes - 1) 0} s t g _ Hz.out f0 f1 (by refine K.At.cast (by repeat (first | (with_reducible exact h) | (with_reducible apply K.At.set) | (with_reducible apply K.At.alloc) | (with_reducible apply K.At.drewN) | (with_reducible apply K.At.drew) | (with_reducible apply K.At.far) | omega | (simp <;> omega))) ?_; (first | (simp [mach, *]; done) | (simp only [mach]; (repeat' split) <;> (first | rfl | (exfalso; omega) | (simp_all; done) | (simp_all; omega)))))).mono ?_); rintro e W3 ⟨rfl, hA3, ho3⟩; have hO3 := K.Only.mk ho3; clear ho3; obtain ⟨hC3, hF3, hZ3⟩ := K.only_facts hO3; obtain ⟨hc3, hf3, hl3⟩ := K.At.facts hA3) | (go_at_call 36; (with_reducible refine (wins_c {b with probes := K.mx (b.probes - 1) 0} s t g _ v0 v1 (by refine K.At.cast (by repeat (first | (with_reducible exact h) | (with_reducible apply K.At.set) | (with_reducible apply K.At.alloc) | (with_reducible apply K.At.drewN) | (with_reducible apply K.At.drew) | (with_reducible apply K.At.far) | omega | (simp <;> omega))) ?_; (first | (simp [mach, *]; done) | (simp only [mach]; (repeat' split) <;> (first | rfl | (exfalso; omega) | (simp_all; done) | (simp_all; omega)))))).mono ?_); rintro e W3 ⟨rfl, hA3, ho3⟩; have hO3 := K.Only.mk ho3; clear ho3; obtain ⟨hC3, hF3, hZ3⟩ := K.only_facts hO3; obtain ⟨hc3, hf3, hl3⟩ := K.At.facts hA3))
    all_goals first
      | (go_end0; exact ⟨rfl, (by refine K.At.cast (by repeat (first | (with_reducible exact hA3) | (with_reducible apply K.At.set) | (with_reducible apply K.At.alloc) | (with_reducible apply K.At.drewN) | (with_reducible apply K.At.drew) | (with_reducible apply K.At.far) | omega | (simp <;> omega))) ?_; (first | (simp [ends, mach, trip, *]; done) | (simp only [ends, mach, trip]; (repeat' split) <;> (first | rfl | (exfalso; omega) | (simp_all; done) | (simp_all; omega))))), (by repeat (first | (with_reducible exact K.o_refl _ _) | (with_reducible refine K.o_only ?_ (by assumption)) | (with_reducible refine K.o_bel ?_ (by assumption)) | (with_reducible refine K.o_alloc ?_ _) | (with_reducible refine K.o_drewN ?_ _) | (with_reducible refine K.o_drew ?_) | (with_reducible refine K.o_set ?_ _ _)))⟩)
      | (go_end0; exact ⟨rfl, (by refine K.At.cast (by repeat (first | (with_reducible exact h) | (with_reducible apply K.At.set) | (with_reducible apply K.At.alloc) | (with_reducible apply K.At.drewN) | (with_reducible apply K.At.drew) | (with_reducible apply K.At.far) | omega | (simp <;> omega))) ?_; (first | (simp [ends, mach, *]; done) | (simp only [ends, mach]; (repeat' split) <;> (first | rfl | (exfalso; omega) | (simp_all; done) | (simp_all; omega))))), (by repeat (first | (with_reducible exact K.o_refl _ _) | (with_reducible refine K.o_only ?_ (by assumption)) | (with_reducible refine K.o_bel ?_ (by assumption)) | (with_reducible refine K.o_alloc ?_ _) | (with_reducible refine K.o_drewN ?_ _) | (with_reducible refine K.o_drew ?_) | (with_reducible refine K.o_set ?_ _ _)))⟩)
end Go.Proofs.Ytkckehpcdjlcpaa.Brk
