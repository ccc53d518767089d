/- The walk of the breaker's Begin. -/
import Derived.Test.YtkckehpcdjlcpaaBrkW4
namespace Go.Proofs.Ytkckehpcdjlcpaa.Brk
open Go.RowKit Go.Proofs.Ytkckehpcdjlcpaa
attribute [local go_sem] K.max2_int K.min2_int K.max_two K.min_two K.max_three K.min_three
set_option linter.unusedVariables false
set_option linter.unusedSimpArgs false
def begin (b : B) : B := if b.mode = 2 then { b with probes := b.probes + 1 } else b
def eBegin (b : B) (s : S) (t : Int) : Int := if chk b s t = 0 then (if allows b s then 0 else 9) else chk b s t
def oBegin (b : B) (s : S) (t : Int) : B := if eBegin b s t = 0 then begin b else zero
def pBegin (b : B) (s : S) (t : Int) : Bool := decide (eBegin b s t = 0) && decide (b.mode = 2)
theorem begin_half {b : B} {s : S} {t : Int} (h : chk b s t = 0) (ha : allows b s = true) (hm : b.mode = 2) : Ending.returned (.tuple #[.agg #[.int .i64 b.mode, .int .i64 b.fails, .int .i64 b.til, .int .i64 (b.probes + 1), .int .i64 b.wins], .bool true, .int .i64 0]) = Ending.returned (.tuple #[(oBegin b s t).a, .bool (pBegin b s t), .int .i64 (eBegin b s t)]) := by
  simp [oBegin, pBegin, eBegin, begin, h, ha, hm]
theorem begin_shut {b : B} {s : S} {t : Int} (h : chk b s t = 0) (ha : allows b s = true) (hm : ¬ b.mode = 2) : Ending.returned (.tuple #[b.a, .bool false, .int .i64 0]) = Ending.returned (.tuple #[(oBegin b s t).a, .bool (pBegin b s t), .int .i64 (eBegin b s t)]) := by
  simp [oBegin, pBegin, eBegin, begin, h, ha, hm]
theorem begin_no {b : B} {s : S} {t : Int} (h : chk b s t = 0) (ha : allows b s = false) : Ending.returned (.tuple #[.agg #[.int .i64 0, .int .i64 0, .int .i64 0, .int .i64 0, .int .i64 0], .bool false, .int .i64 9]) = Ending.returned (.tuple #[(oBegin b s t).a, .bool (pBegin b s t), .int .i64 (eBegin b s t)]) := by
  simp [oBegin, pBegin, eBegin, begin, h, ha, zero]
theorem begin_bad {b : B} {s : S} {t : Int} (h : ¬ chk b s t = 0) : Ending.returned (.tuple #[.agg #[.int .i64 0, .int .i64 0, .int .i64 0, .int .i64 0, .int .i64 0], .bool false, .int .i64 (chk b s t)]) = Ending.returned (.tuple #[(oBegin b s t).a, .bool (pBegin b s t), .int .i64 (eBegin b s t)]) := by
  simp [oBegin, pBegin, eBegin, h, zero]

set_option maxHeartbeats 1000000 in
theorem Begin_bad (b : B) (s : S) (t : Int) (w : World) (h : ¬ chk b s t = 0) : Calls Try.prog 11 #[b.a, s.a, .int .i64 t] w fun e w' =>
    e = .returned (.tuple #[(oBegin b s t).a, .bool (pBegin b s t), .int .i64 (eBegin b s t)]) ∧ Below w.heap.size w w' := by
  have h2 : (chk b s t != 0) = true := by simpa using h
  have Hh := K.H.mk h
  clear h
  go_enter Try.func11, Try.ntmps11
  go_wp2_with (first | (go_at_call 19; (with_reducible refine (ask_no b s t _ Hh.out).mono ?_); rintro e W1 ⟨g1, hg1, rfl, hA1, hb1⟩; obtain ⟨hB1, hC1, hF1, hZ1⟩ := K.bel_facts hb1; clear hb1; obtain ⟨hc1, hf1, hl1⟩ := K.At.facts hA1; (try simp at hg1); have hn1_0 : w.heap.size ≠ g1 := (by omega); have hn1_1 : w.heap.size + 1 ≠ g1 := (by omega); have hn1_2 : w.heap.size + 2 ≠ g1 := (by omega); have hZZ := hZ1; (try simp at hZZ); have hz1_0 : w.heap.size < W1.heap.size := (by omega); have hz1_1 : w.heap.size + 1 < W1.heap.size := (by omega); have hz1_2 : w.heap.size + 2 < W1.heap.size := (by omega); clear hZZ))
  ((try simp only [Exit.inBlock, Exit.then]); refine bodyPost_ret (v := .tuple #[.agg #[.int .i64 0, .int .i64 0, .int .i64 0, .int .i64 0, .int .i64 0], .bool false, .int .i64 (chk b s t)]) (by simp only [results, Try.results11]; go_simp) rfl ?_)
  exact ⟨begin_bad Hh.out, (by repeat (first | (with_reducible exact Below.refl _ _) | (with_reducible refine K.b_bel ?_ (by assumption)) | (with_reducible refine K.b_alloc ?_ _) | (with_reducible refine K.b_drewN ?_ _) | (with_reducible refine K.b_drew ?_) | (with_reducible refine K.b_set ?_ (by first | omega | (simp <;> omega)) _) | (with_reducible refine K.b_only ?_ (by assumption) (by first | omega | (simp <;> omega)))))⟩

set_option maxHeartbeats 1000000 in
theorem Begin_no (b : B) (s : S) (t : Int) (w : World) (h : chk b s t = 0) (ha : allows b s = false) : Calls Try.prog 11 #[b.a, s.a, .int .i64 t] w fun e w' =>
    e = .returned (.tuple #[(oBegin b s t).a, .bool (pBegin b s t), .int .i64 (eBegin b s t)]) ∧ Below w.heap.size w w' := by
  have Hh := K.H.mk h
  clear h
  go_enter Try.func11, Try.ntmps11
  go_wp2_with (first | (go_at_call 19; (with_reducible refine (ask_ok b s t _ Hh.out).mono ?_); rintro e W1 ⟨g1, hg1, rfl, hA1, hb1⟩; obtain ⟨hB1, hC1, hF1, hZ1⟩ := K.bel_facts hb1; clear hb1; obtain ⟨hc1, hf1, hl1⟩ := K.At.facts hA1; (try simp at hg1); have hn1_0 : w.heap.size ≠ g1 := (by omega); have hn1_1 : w.heap.size + 1 ≠ g1 := (by omega); have hn1_2 : w.heap.size + 2 ≠ g1 := (by omega); have hZZ := hZ1; (try simp at hZZ); have hz1_0 : w.heap.size < W1.heap.size := (by omega); have hz1_1 : w.heap.size + 1 < W1.heap.size := (by omega); have hz1_2 : w.heap.size + 2 < W1.heap.size := (by omega); clear hZZ) | (go_at_call 21; (with_reducible refine (allows_c b s t g1 _ (by assumption)).mono ?_); rintro e W2 ⟨rfl, hb2⟩; obtain ⟨hB2, hC2, hF2, hZ2⟩ := K.bel_facts hb2; clear hb2; have hZZ := hZ2; (try simp at hZZ); have hz2_0 : w.heap.size < W2.heap.size := (by omega); have hz2_1 : w.heap.size + 1 < W2.heap.size := (by omega); have hz2_2 : w.heap.size + 2 < W2.heap.size := (by omega); (try have hz2_1_0 : W1.heap.size < W2.heap.size := (by omega)); (try have hz2_1_1 : W1.heap.size + 1 < W2.heap.size := (by omega)); clear hZZ))
  ((try simp only [Exit.inBlock, Exit.then]); refine bodyPost_ret (v := .tuple #[.agg #[.int .i64 0, .int .i64 0, .int .i64 0, .int .i64 0, .int .i64 0], .bool false, .int .i64 9]) (by simp only [results, Try.results11]; go_simp) rfl ?_)
  exact ⟨begin_no Hh.out ha, (by repeat (first | (with_reducible exact Below.refl _ _) | (with_reducible refine K.b_bel ?_ (by assumption)) | (with_reducible refine K.b_alloc ?_ _) | (with_reducible refine K.b_drewN ?_ _) | (with_reducible refine K.b_drew ?_) | (with_reducible refine K.b_set ?_ (by first | omega | (simp <;> omega)) _) | (with_reducible refine K.b_only ?_ (by assumption) (by first | omega | (simp <;> omega)))))⟩

set_option maxHeartbeats 1000000 in
theorem Begin_ok (b : B) (s : S) (t : Int) (w : World) (h : chk b s t = 0) (ha : allows b s = true) : Calls Try.prog 11 #[b.a, s.a, .int .i64 t] w fun e w' =>
    e = .returned (.tuple #[(oBegin b s t).a, .bool (pBegin b s t), .int .i64 (eBegin b s t)]) ∧ Below w.heap.size w w' := by
  obtain ⟨hz, hb⟩ := chk_wrap h
  obtain ⟨⟨m0, m1⟩, ⟨u0, u1⟩, ⟨f0, f1⟩, ⟨p0, p1⟩, ⟨v0, v1⟩⟩ := (state_iff b).1 hb
  have Hh := K.H.mk h
  clear hz h hb
  go_enter Try.func11, Try.ntmps11
  go_wp2_with (first | (go_at_call 19; (with_reducible refine (ask_ok b s t _ Hh.out).mono ?_); rintro e W1 ⟨g1, hg1, rfl, hA1, hb1⟩; obtain ⟨hB1, hC1, hF1, hZ1⟩ := K.bel_facts hb1; clear hb1; obtain ⟨hc1, hf1, hl1⟩ := K.At.facts hA1; (try simp at hg1); have hn1_0 : w.heap.size ≠ g1 := (by omega); have hn1_1 : w.heap.size + 1 ≠ g1 := (by omega); have hn1_2 : w.heap.size + 2 ≠ g1 := (by omega); have hZZ := hZ1; (try simp at hZZ); have hz1_0 : w.heap.size < W1.heap.size := (by omega); have hz1_1 : w.heap.size + 1 < W1.heap.size := (by omega); have hz1_2 : w.heap.size + 2 < W1.heap.size := (by omega); clear hZZ) | (go_at_call 21; (with_reducible refine (allows_c b s t g1 _ (by assumption)).mono ?_); rintro e W2 ⟨rfl, hb2⟩; obtain ⟨hB2, hC2, hF2, hZ2⟩ := K.bel_facts hb2; clear hb2; have hZZ := hZ2; (try simp at hZZ); have hz2_0 : w.heap.size < W2.heap.size := (by omega); have hz2_1 : w.heap.size + 1 < W2.heap.size := (by omega); have hz2_2 : w.heap.size + 2 < W2.heap.size := (by omega); (try have hz2_1_0 : W1.heap.size < W2.heap.size := (by omega)); (try have hz2_1_1 : W1.heap.size + 1 < W2.heap.size := (by omega)); clear hZZ))
  all_goals go_region
  all_goals go_wp2
  · ((try simp only [Exit.inBlock, Exit.then]); refine bodyPost_ret (v := .tuple #[.agg #[.int .i64 b.mode, .int .i64 b.fails, .int .i64 b.til, .int .i64 (b.probes + 1), .int .i64 b.wins], .bool true, .int .i64 0]) (by simp only [results, Try.results11]; go_simp) rfl ?_)
    exact ⟨begin_half Hh.out ha (by first | assumption | exact Bool.eq_false_iff.2 (by assumption) | exact K.not_t (by assumption) | exact K.not_f (by assumption) | exact beq_iff_eq.1 (by assumption) | exact beq_eq_false_iff_ne.1 (by assumption) | (exact of_decide_eq_true (by assumption)) | (exact of_decide_eq_false (by assumption)) | omega), (by repeat (first | (with_reducible exact Below.refl _ _) | (with_reducible refine K.b_bel ?_ (by assumption)) | (with_reducible refine K.b_alloc ?_ _) | (with_reducible refine K.b_drewN ?_ _) | (with_reducible refine K.b_drew ?_) | (with_reducible refine K.b_set ?_ (by first | omega | (simp <;> omega)) _) | (with_reducible refine K.b_only ?_ (by assumption) (by first | omega | (simp <;> omega)))))⟩
  · ((try simp only [Exit.inBlock, Exit.then]); refine bodyPost_ret (v := .tuple #[b.a, .bool false, .int .i64 0]) (by simp only [results, Try.results11]; go_simp) rfl ?_)
    exact ⟨begin_shut Hh.out ha (by first | assumption | exact Bool.eq_false_iff.2 (by assumption) | exact K.not_t (by assumption) | exact K.not_f (by assumption) | exact beq_iff_eq.1 (by assumption) | exact beq_eq_false_iff_ne.1 (by assumption) | (exact of_decide_eq_true (by assumption)) | (exact of_decide_eq_false (by assumption)) | omega), (by repeat (first | (with_reducible exact Below.refl _ _) | (with_reducible refine K.b_bel ?_ (by assumption)) | (with_reducible refine K.b_alloc ?_ _) | (with_reducible refine K.b_drewN ?_ _) | (with_reducible refine K.b_drew ?_) | (with_reducible refine K.b_set ?_ (by first | omega | (simp <;> omega)) _) | (with_reducible refine K.b_only ?_ (by assumption) (by first | omega | (simp <;> omega)))))⟩

theorem Begin_c (b : B) (s : S) (t : Int) (w : World) : Calls Try.prog 11 #[b.a, s.a, .int .i64 t] w fun e w' =>
    e = .returned (.tuple #[(oBegin b s t).a, .bool (pBegin b s t), .int .i64 (eBegin b s t)]) ∧ Below w.heap.size w w' := by
  by_cases h : chk b s t = 0
  · cases ha : allows b s
    · exact Begin_no b s t w h ha
    · exact Begin_ok b s t w h ha
  · exact Begin_bad b s t w h
end Go.Proofs.Ytkckehpcdjlcpaa.Brk
