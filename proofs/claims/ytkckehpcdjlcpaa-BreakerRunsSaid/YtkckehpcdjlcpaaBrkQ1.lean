/- The reference's steps, where the breaker may be. -/
import Derived.Test.YtkckehpcdjlcpaaBrkL2
import Derived.Test.YtkckehpcdjlcpaaBrkW5
namespace Go.Proofs.Ytkckehpcdjlcpaa.Brk
open Go.RowKit Go.Proofs.Ytkckehpcdjlcpaa
attribute [local go_sem] K.max2_int K.min2_int K.max_two K.min_two K.max_three K.min_three
set_option linter.unusedVariables false
set_option linter.unusedSimpArgs false
theorem mx_sym (a b : Int) : K.mx a b = K.mx b a := by unfold K.mx; split <;> split <;> omega
set_option maxRecDepth 100000 in
set_option maxHeartbeats 1000000 in
theorem rtick_c (b : B) (s : S) (t : Int) (w : World) (h : chk b s t = 0) : Calls Try.prog 32 #[b.a, s.a, .int .i64 t] w fun e w' =>
    e = .returned (.tuple #[(on b t).a, .int .i64 0]) ∧ Below w.heap.size w w' := by
  have HC : ∀ W, Calls Try.prog 14 #[b.a, s.a, .int .i64 t] W fun e w' => e = .returned (.int .i64 0) ∧ Below W.heap.size W w' := fun W => by
    have h2 := rchk_c b s t W
    rw [h] at h2; exact h2
  have GC := K.H.mk HC
  clear HC h
  go_enter Try.func32, Try.ntmps32
  go_wp2_with (first | (go_at_call 14; (with_reducible refine (GC.out _).mono ?_); rintro e W1 ⟨rfl, hb1⟩; obtain ⟨hB1, hC1, hF1, hZ1⟩ := K.bel_facts hb1; clear hb1; have hZZ := hZ1; (try simp at hZZ); have hz1_0 : w.heap.size < W1.heap.size := (by omega); have hz1_1 : w.heap.size + 1 < W1.heap.size := (by omega); have hz1_2 : w.heap.size + 2 < W1.heap.size := (by omega); clear hZZ; have hP1 : K.At W1 w.heap.size 23 #[.int .i64 b.mode, .int .i64 b.fails, .int .i64 b.til, .int .i64 b.probes, .int .i64 b.wins] := (by refine K.At.cast (by repeat (first | (with_reducible refine K.At.new' _ _ _ _ (by first | rfl | (simp; done) | omega)) | (with_reducible apply K.At.over hB1) | (with_reducible apply K.At.set) | (with_reducible apply K.At.alloc) | (with_reducible apply K.At.drewN) | (with_reducible apply K.At.drew) | (with_reducible apply K.At.far) | omega | (simp <;> omega))) ?_; rfl); obtain ⟨hcP, hfP, hlP⟩ := K.At.facts hP1))
  all_goals first
    | (((try simp only [Exit.inBlock, Exit.then]); refine bodyPost_ret (v := .tuple #[.agg #[.int .i64 2, .int .i64 b.fails, .int .i64 b.til, .int .i64 b.probes, .int .i64 0], .int .i64 0]) ?_ rfl ?_; focus (simp only [results, Try.results32]; go_simp; done)); refine ⟨?_, (by repeat (first | (with_reducible exact Below.refl _ _) | (with_reducible refine K.b_bel ?_ (by assumption)) | (with_reducible refine K.b_alloc ?_ _) | (with_reducible refine K.b_drewN ?_ _) | (with_reducible refine K.b_drew ?_) | (with_reducible refine K.b_set ?_ (by first | omega | (simp <;> omega)) _) | (with_reducible refine K.b_only ?_ (by assumption) (by first | omega | (simp <;> omega)))))⟩)
    | (((try simp only [Exit.inBlock, Exit.then]); refine bodyPost_ret (v := .tuple #[b.a, .int .i64 0]) ?_ rfl ?_; focus (simp only [results, Try.results32]; go_simp; done)); refine ⟨?_, (by repeat (first | (with_reducible exact Below.refl _ _) | (with_reducible refine K.b_bel ?_ (by assumption)) | (with_reducible refine K.b_alloc ?_ _) | (with_reducible refine K.b_drewN ?_ _) | (with_reducible refine K.b_drew ?_) | (with_reducible refine K.b_set ?_ (by first | omega | (simp <;> omega)) _) | (with_reducible refine K.b_only ?_ (by assumption) (by first | omega | (simp <;> omega)))))⟩)
  all_goals (clear GC; ((try clear hC0); (try clear hF0); (try clear hc0); (try clear hf0); (try clear hB0); (try clear hO0); (try clear hA0); (try clear hC1); (try clear hF1); (try clear hc1); (try clear hf1); (try clear hB1); (try clear hO1); (try clear hA1); (try clear hC2); (try clear hF2); (try clear hc2); (try clear hf2); (try clear hB2); (try clear hO2); (try clear hA2); (try clear hC3); (try clear hF3); (try clear hc3); (try clear hf3); (try clear hB3); (try clear hO3); (try clear hA3); (try clear hC4); (try clear hF4); (try clear hc4); (try clear hf4); (try clear hB4); (try clear hO4); (try clear hA4); (try clear hC5); (try clear hF5); (try clear hc5); (try clear hf5); (try clear hB5); (try clear hO5); (try clear hA5); go_light); (first | (simp [on, *]; done) | (simp only [on]; (repeat' split) <;> (first | rfl | (exfalso; omega) | (simp_all; done) | (simp_all; omega)))))
set_option maxRecDepth 100000 in
set_option maxHeartbeats 1000000 in
theorem rallows_c (b : B) (s : S) (t : Int) (w : World) (h : chk b s t = 0) : Calls Try.prog 39 #[b.a, s.a, .int .i64 t] w fun e w' =>
    e = .returned (.tuple #[.bool (allows b s), .int .i64 0]) ∧ Below w.heap.size w w' := by
  have HC : ∀ W, Calls Try.prog 14 #[b.a, s.a, .int .i64 t] W fun e w' => e = .returned (.int .i64 0) ∧ Below W.heap.size W w' := fun W => by
    have h2 := rchk_c b s t W
    rw [h] at h2; exact h2
  have GC := K.H.mk HC
  clear HC h
  go_enter Try.func39, Try.ntmps39
  go_wp2_with (first | (go_at_call 14; (with_reducible refine (GC.out _).mono ?_); rintro e W1 ⟨rfl, hb1⟩; obtain ⟨hB1, hC1, hF1, hZ1⟩ := K.bel_facts hb1; clear hb1; have hZZ := hZ1; (try simp at hZZ); have hz1_0 : w.heap.size < W1.heap.size := (by omega); have hz1_1 : w.heap.size + 1 < W1.heap.size := (by omega); clear hZZ))
  all_goals go_ret2
  all_goals (refine ⟨?_, (by repeat (first | (with_reducible exact Below.refl _ _) | (with_reducible refine K.b_bel ?_ (by assumption)) | (with_reducible refine K.b_alloc ?_ _) | (with_reducible refine K.b_drewN ?_ _) | (with_reducible refine K.b_drew ?_) | (with_reducible refine K.b_set ?_ (by first | omega | (simp <;> omega)) _) | (with_reducible refine K.b_only ?_ (by assumption) (by first | omega | (simp <;> omega)))))⟩; clear GC; ((try clear hC0); (try clear hF0); (try clear hc0); (try clear hf0); (try clear hB0); (try clear hO0); (try clear hA0); (try clear hC1); (try clear hF1); (try clear hc1); (try clear hf1); (try clear hB1); (try clear hO1); (try clear hA1); (try clear hC2); (try clear hF2); (try clear hc2); (try clear hf2); (try clear hB2); (try clear hO2); (try clear hA2); (try clear hC3); (try clear hF3); (try clear hc3); (try clear hf3); (try clear hB3); (try clear hO3); (try clear hA3); (try clear hC4); (try clear hF4); (try clear hc4); (try clear hf4); (try clear hB4); (try clear hO4); (try clear hA4); (try clear hC5); (try clear hF5); (try clear hc5); (try clear hf5); (try clear hB5); (try clear hO5); (try clear hA5); go_light); (first | (simp [allows, *]; done) | (simp only [allows]; (repeat' split) <;> (first | rfl | (exfalso; omega) | (simp_all; done) | (simp_all; omega)))))
set_option maxRecDepth 100000 in
set_option maxHeartbeats 1000000 in
theorem rbegin_c (b : B) (s : S) (t : Int) (w : World) (h : chk b s t = 0) : Calls Try.prog 33 #[b.a, s.a, .int .i64 t] w fun e w' =>
    e = .returned (.tuple #[(oBegin b s t).a, .bool (pBegin b s t), .int .i64 (eBegin b s t)]) ∧ Below w.heap.size w w' := by
  have GC := K.H.mk (rallows_c b s t · h)
  have Hh := K.H.mk h
  have hp := (state_iff b).1 (chk_zero.1 h).2.2
  obtain ⟨⟨m0, m1⟩, ⟨u0, u1⟩, ⟨f0, f1⟩, ⟨p0, p1⟩, ⟨v0, v1⟩⟩ := hp
  clear h
  cases ha : allows b s
  · have HC : ∀ W, Calls Try.prog 39 #[b.a, s.a, .int .i64 t] W fun e w' => e = .returned (.tuple #[.bool false, .int .i64 0]) ∧ Below W.heap.size W w' := fun W => by
      have h2 := GC.out W
      rw [ha] at h2; exact h2
    have GD := K.H.mk HC
    clear HC GC
    go_enter Try.func33, Try.ntmps33
    go_wp2_with (first | (go_at_call 39; (with_reducible refine (GD.out _).mono ?_); rintro e W1 ⟨rfl, hb1⟩; obtain ⟨hB1, hC1, hF1, hZ1⟩ := K.bel_facts hb1; clear hb1; have hZZ := hZ1; (try simp at hZZ); have hz1_0 : w.heap.size < W1.heap.size := (by omega); have hz1_1 : w.heap.size + 1 < W1.heap.size := (by omega); have hz1_2 : w.heap.size + 2 < W1.heap.size := (by omega); clear hZZ))
    ((try simp only [Exit.inBlock, Exit.then]); refine bodyPost_ret (v := .tuple #[.agg #[.int .i64 0, .int .i64 0, .int .i64 0, .int .i64 0, .int .i64 0], .bool false, .int .i64 9]) (by simp only [results, Try.results33]; go_simp) rfl ?_)
    exact ⟨begin_no Hh.out ha, (by repeat (first | (with_reducible exact Below.refl _ _) | (with_reducible refine K.b_bel ?_ (by assumption)) | (with_reducible refine K.b_alloc ?_ _) | (with_reducible refine K.b_drewN ?_ _) | (with_reducible refine K.b_drew ?_) | (with_reducible refine K.b_set ?_ (by first | omega | (simp <;> omega)) _) | (with_reducible refine K.b_only ?_ (by assumption) (by first | omega | (simp <;> omega)))))⟩
  · have HC : ∀ W, Calls Try.prog 39 #[b.a, s.a, .int .i64 t] W fun e w' => e = .returned (.tuple #[.bool true, .int .i64 0]) ∧ Below W.heap.size W w' := fun W => by
      have h2 := GC.out W
      rw [ha] at h2; exact h2
    have GD := K.H.mk HC
    clear HC GC
    go_enter Try.func33, Try.ntmps33
    go_wp2_with (first | (go_at_call 39; (with_reducible refine (GD.out _).mono ?_); rintro e W1 ⟨rfl, hb1⟩; obtain ⟨hB1, hC1, hF1, hZ1⟩ := K.bel_facts hb1; clear hb1; have hZZ := hZ1; (try simp at hZZ); have hz1_0 : w.heap.size < W1.heap.size := (by omega); have hz1_1 : w.heap.size + 1 < W1.heap.size := (by omega); have hz1_2 : w.heap.size + 2 < W1.heap.size := (by omega); clear hZZ; have hP1 : K.At W1 w.heap.size 23 #[.int .i64 b.mode, .int .i64 b.fails, .int .i64 b.til, .int .i64 b.probes, .int .i64 b.wins] := (by refine K.At.cast (by repeat (first | (with_reducible refine K.At.new' _ _ _ _ (by first | rfl | (simp; done) | omega)) | (with_reducible apply K.At.over hB1) | (with_reducible apply K.At.set) | (with_reducible apply K.At.alloc) | (with_reducible apply K.At.drewN) | (with_reducible apply K.At.drew) | (with_reducible apply K.At.far) | omega | (simp <;> omega))) ?_; rfl); obtain ⟨hcP, hfP, hlP⟩ := K.At.facts hP1))
    · ((try simp only [Exit.inBlock, Exit.then]); refine bodyPost_ret (v := .tuple #[.agg #[.int .i64 b.mode, .int .i64 b.fails, .int .i64 b.til, .int .i64 (b.probes + 1), .int .i64 b.wins], .bool true, .int .i64 0]) (by simp only [results, Try.results33]; go_simp) rfl ?_)
      exact ⟨begin_half Hh.out ha (by first | assumption | exact Bool.eq_false_iff.2 (by assumption) | exact K.not_t (by assumption) | exact K.not_f (by assumption) | exact beq_iff_eq.1 (by assumption) | exact beq_eq_false_iff_ne.1 (by assumption) | (exact of_decide_eq_true (by assumption)) | (exact of_decide_eq_false (by assumption)) | omega), (by repeat (first | (with_reducible exact Below.refl _ _) | (with_reducible refine K.b_bel ?_ (by assumption)) | (with_reducible refine K.b_alloc ?_ _) | (with_reducible refine K.b_drewN ?_ _) | (with_reducible refine K.b_drew ?_) | (with_reducible refine K.b_set ?_ (by first | omega | (simp <;> omega)) _) | (with_reducible refine K.b_only ?_ (by assumption) (by first | omega | (simp <;> omega)))))⟩
    · ((try simp only [Exit.inBlock, Exit.then]); refine bodyPost_ret (v := .tuple #[b.a, .bool false, .int .i64 0]) (by simp only [results, Try.results33]; go_simp) rfl ?_)
      exact ⟨begin_shut Hh.out ha (by first | assumption | exact Bool.eq_false_iff.2 (by assumption) | exact K.not_t (by assumption) | exact K.not_f (by assumption) | exact beq_iff_eq.1 (by assumption) | exact beq_eq_false_iff_ne.1 (by assumption) | (exact of_decide_eq_true (by assumption)) | (exact of_decide_eq_false (by assumption)) | omega), (by repeat (first | (with_reducible exact Below.refl _ _) | (with_reducible refine K.b_bel ?_ (by assumption)) | (with_reducible refine K.b_alloc ?_ _) | (with_reducible refine K.b_drewN ?_ _) | (with_reducible refine K.b_drew ?_) | (with_reducible refine K.b_set ?_ (by first | omega | (simp <;> omega)) _) | (with_reducible refine K.b_only ?_ (by assumption) (by first | omega | (simp <;> omega)))))⟩
end Go.Proofs.Ytkckehpcdjlcpaa.Brk
