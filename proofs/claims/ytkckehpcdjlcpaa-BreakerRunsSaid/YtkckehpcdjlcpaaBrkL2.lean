/- The reference's Check is the program's; BreakerOpens. -/
import Derived.Test.YtkckehpcdjlcpaaBrkL1
namespace Go.Proofs.Ytkckehpcdjlcpaa.Brk
open Go.RowKit Go.Proofs.Ytkckehpcdjlcpaa
attribute [local go_sem] K.max2_int K.min2_int K.max_two K.min_two K.max_three K.min_three
set_option linter.unusedVariables false
set_option linter.unusedSimpArgs false
theorem chk_four {b : B} {s : S} {t : Int} (h : sets s = false ∨ t < 0 ∨ 536870912 < t) : chk b s t = 4 := by
  unfold chk
  rw [if_neg]
  rw [Bool.and_eq_true, inB_iff]
  rintro ⟨h1, h2⟩
  rcases h with h | h | h
  · rw [h] at h1; cases h1
  · omega
  · omega
theorem chk_nine {b : B} {s : S} {t : Int} (h1 : sets s = true) (h2 : 0 ≤ t) (h3 : t ≤ 536870912) (h : ¬ ((0 ≤ b.mode ∧ b.mode ≤ 2) ∧ (0 ≤ b.til ∧ b.til ≤ 1073741824) ∧ (0 ≤ b.fails ∧ b.fails ≤ 1000) ∧ (0 ≤ b.probes ∧ b.probes ≤ 1000) ∧ (0 ≤ b.wins ∧ b.wins ≤ 1000))) : chk b s t = 9 := by
  unfold chk
  rw [if_pos (by rw [Bool.and_eq_true, inB_iff]; exact ⟨h1, h2, h3⟩), if_neg]
  rw [state_iff]; exact h
theorem chk_nil {b : B} {s : S} {t : Int} (h1 : sets s = true) (h2 : 0 ≤ t) (h3 : t ≤ 536870912) (h : (0 ≤ b.mode ∧ b.mode ≤ 2) ∧ (0 ≤ b.til ∧ b.til ≤ 1073741824) ∧ (0 ≤ b.fails ∧ b.fails ≤ 1000) ∧ (0 ≤ b.probes ∧ b.probes ≤ 1000) ∧ (0 ≤ b.wins ∧ b.wins ≤ 1000)) : chk b s t = 0 := chk_zero.2 ⟨h1, ⟨h2, h3⟩, (state_iff b).2 h⟩
set_option maxHeartbeats 2000000 in
theorem rsets_c (s : S) (w : World) : Calls Try.prog 25 #[s.a] w fun e w' => e = .returned (.bool (sets s)) ∧ Below w.heap.size w w' := by
  go_enter Try.func25, Try.ntmps25
  go_wp2
  all_goals (go_ret; refine ⟨K.ret_bool ?_, (by repeat (first | (with_reducible exact Below.refl _ _) | (with_reducible refine K.b_bel ?_ (by assumption)) | (with_reducible refine K.b_alloc ?_ _) | (with_reducible refine K.b_drewN ?_ _) | (with_reducible refine K.b_drew ?_) | (with_reducible refine K.b_set ?_ (by first | omega | (simp <;> omega)) _) | (with_reducible refine K.b_only ?_ (by assumption) (by first | omega | (simp <;> omega)))))⟩)
  all_goals (simp only [sets, inB]; go_light; (try simp only [decide_eq_true_eq, decide_eq_false_iff_not] at *); simp [*]; try omega)
set_option maxRecDepth 100000 in
set_option maxHeartbeats 4000000 in
theorem rchk_c (b : B) (s : S) (t : Int) (w : World) : Calls Try.prog 14 #[b.a, s.a, .int .i64 t] w fun e w' => e = .returned (.int .i64 (chk b s t)) ∧ Below w.heap.size w w' := by
  go_enter Try.func14, Try.ntmps14
  go_wp2_with (first | (go_at_call 25; (with_reducible refine (rsets_c s _).mono ?_); rintro e W1 ⟨rfl, hb1⟩; obtain ⟨hB1, hC1, hF1, hZ1⟩ := K.bel_facts hb1; clear hb1; have hZZ := hZ1; (try simp at hZZ); have hz1_0 : w.heap.size < W1.heap.size := (by omega); have hz1_1 : w.heap.size + 1 < W1.heap.size := (by omega); clear hZZ))
  all_goals (go_ret; refine ⟨K.ret_int ?_, (by repeat (first | (with_reducible exact Below.refl _ _) | (with_reducible refine K.b_bel ?_ (by assumption)) | (with_reducible refine K.b_alloc ?_ _) | (with_reducible refine K.b_drewN ?_ _) | (with_reducible refine K.b_drew ?_) | (with_reducible refine K.b_set ?_ (by first | omega | (simp <;> omega)) _) | (with_reducible refine K.b_only ?_ (by assumption) (by first | omega | (simp <;> omega)))))⟩; clear hC1 hF1; go_light)
  all_goals first
    | exact (chk_nine (by assumption) (by omega) (by omega) (by omega)).symm
    | exact (chk_nil (by assumption) (by omega) (by omega) (by omega)).symm
    | exact (chk_four (.inr (by omega))).symm
    | exact (chk_four (.inl (by first | assumption | simp_all))).symm

/-- The breaker behind so many bad ends. -/
def bad (s : S) (t : Int) (k : Nat) : B := if (k : Int) < s.fails then ⟨0, k, 0, 0, 0⟩ else ⟨1, 0, t + s.opn, 0, 0⟩
theorem bad_chk {s : S} {t : Int} {k : Nat} (hs : sets s = true) (h0 : 0 ≤ t) (h1 : t ≤ 268435456) (hf : s.fails ≤ 100) : chk (bad s t k) s t = 0 := by
  have h := (sets_iff s).1 hs
  refine chk_nil hs h0 (by omega) ?_
  unfold bad
  split <;> (simp only; omega)
theorem bad_step {s : S} {t : Int} {k : Nat} (hk : (k : Int) < s.fails) : ends (bad s t k) s t false false = bad s t (k + 1) := by
  unfold bad
  rw [if_pos hk]
  simp only [ends, fails, Bool.false_eq_true, if_false, if_true]
  by_cases h : ((k : Int) + 1) < s.fails
  · rw [if_neg (by omega), if_pos (by push_cast; omega)]; simp
  · rw [if_pos (by omega), if_neg (by push_cast; omega)]
/-- The breaker behind so many good probes. -/
def good (s : S) (t : Int) (k : Nat) : B := if (k : Int) < s.probes then ⟨2, 0, t + s.opn, 0, k⟩ else ⟨0, 0, t + s.opn, 0, 0⟩
theorem good_chk {s : S} {t : Int} {k : Nat} (hs : sets s = true) (h0 : 0 ≤ t) (h1 : t ≤ 268435456) : chk (good s t k) s (t + s.opn) = 0 := by
  have h := (sets_iff s).1 hs
  refine chk_nil hs (by omega) (by omega) ?_
  unfold good
  split <;> (simp only; omega)
theorem good_begin {s : S} {t : Int} {k : Nat} (hs : sets s = true) (h0 : 0 ≤ t) (h1 : t ≤ 268435456) (hk : (k : Int) < s.probes) :
    eBegin (good s t k) s (t + s.opn) = 0 ∧ begin (good s t k) = ⟨2, 0, t + s.opn, 1, k⟩ ∧ pBegin (good s t k) s (t + s.opn) = true := by
  have h := (sets_iff s).1 hs
  have hc := good_chk (k := k) hs h0 h1
  have ha : allows (good s t k) s = true := by
    unfold good allows; rw [if_pos hk]; simp; omega
  have he : eBegin (good s t k) s (t + s.opn) = 0 := by unfold eBegin; rw [if_pos hc, if_pos ha]
  refine ⟨he, ?_, ?_⟩
  · unfold good begin; rw [if_pos hk]; simp
  · unfold pBegin; rw [he]; unfold good; rw [if_pos hk]; simp
theorem good_step {s : S} {t : Int} {k : Nat} (hk : (k : Int) < s.probes) : ends ⟨2, 0, t + s.opn, 1, k⟩ s (t + s.opn) true true = good s t (k + 1) := by
  unfold good
  simp only [ends, wins, K.mx, if_true]
  by_cases h : ((k : Int) + 1) < s.probes
  · have h2 : ¬ (s.probes ≤ (k : Int) + 1) := by omega
    simp [h, h2]
  · have h2 : s.probes ≤ (k : Int) + 1 := by omega
    simp [h, h2]
theorem half_chk {s : S} {t : Int} {k : Int} (hs : sets s = true) (h0 : 0 ≤ t) (h1 : t ≤ 268435456) (hk0 : 0 ≤ k) (hk1 : k ≤ 64) : chk ⟨2, 0, t + s.opn, 1, k⟩ s (t + s.opn) = 0 := by
  have h := (sets_iff s).1 hs
  refine chk_nil hs (by omega) (by omega) ?_
  simp only; omega

theorem emod_bounds {e o : Int} (ho : 1 ≤ o) : 0 ≤ (e.tmod o + o).tmod o ∧ (e.tmod o + o).tmod o < o := by
  have h1 : -o < e.tmod o := by have := Int.lt_tmod_of_pos e (show 0 < o by omega); omega
  exact ⟨Int.tmod_nonneg _ (by omega), Int.tmod_lt_of_pos _ (by omega)⟩
set_option maxRecDepth 100000 in
set_option maxHeartbeats 4000000 in
theorem Opens_no (s : S) (t e : Int) (w : World) (h : chk zero s t ≠ 0 ∨ 268435456 < t ∨ 100 < s.fails) : Calls Try.prog 4 #[s.a, .int .i64 t, .int .i64 e] w fun e w' =>
    e = .returned (.bool true) ∧ Below w.heap.size w w' := by
  have Hh := K.H.mk h
  have H0 : ∀ W, Calls Try.prog 14 #[.agg #[.int .i64 0, .int .i64 0, .int .i64 0, .int .i64 0, .int .i64 0], s.a, .int .i64 t] W fun e w' => e = .returned (.int .i64 (chk zero s t)) ∧ Below W.heap.size W w' := fun W => rchk_c zero s t W
  have H1 : ∀ W, Calls Try.prog 13 #[.agg #[.int .i64 0, .int .i64 0, .int .i64 0, .int .i64 0, .int .i64 0], s.a, .int .i64 t] W fun e w' => e = .returned (.int .i64 (chk zero s t)) ∧ Below W.heap.size W w' := fun W => chk_c zero s t W
  have G0 := K.H.mk H0
  have G1 := K.H.mk H1
  clear h H0 H1
  go_enter Try.func4, Try.ntmps4
  go_wp2_with (first | (go_at_call 8; (with_reducible refine (alive_c _).mono ?_); rintro e W1 ⟨rfl, hb1⟩; obtain ⟨hB1, hC1, hF1, hZ1⟩ := K.bel_facts hb1; clear hb1; have hZZ := hZ1; (try simp at hZZ); have hz1_0 : w.heap.size < W1.heap.size := (by omega); clear hZZ) | (go_at_call 14; (with_reducible refine (G0.out _).mono ?_); rintro e W2 ⟨rfl, hb2⟩; obtain ⟨hB2, hC2, hF2, hZ2⟩ := K.bel_facts hb2; clear hb2; have hZZ := hZ2; (try simp at hZZ); have hz2_0 : w.heap.size < W2.heap.size := (by omega); (try have hz2_1_0 : W1.heap.size < W2.heap.size := (by omega)); (try have hz2_1_1 : W1.heap.size + 1 < W2.heap.size := (by omega)); clear hZZ) | (go_at_call 13; (with_reducible refine (G1.out _).mono ?_); rintro e W3 ⟨rfl, hb3⟩; obtain ⟨hB3, hC3, hF3, hZ3⟩ := K.bel_facts hb3; clear hb3; have hZZ := hZ3; (try simp at hZZ); have hz3_0 : w.heap.size < W3.heap.size := (by omega); (try have hz3_1_0 : W1.heap.size < W3.heap.size := (by omega)); (try have hz3_1_1 : W1.heap.size + 1 < W3.heap.size := (by omega)); (try have hz3_2_0 : W2.heap.size < W3.heap.size := (by omega)); (try have hz3_2_1 : W2.heap.size + 1 < W3.heap.size := (by omega)); clear hZZ))
  all_goals first
    | (go_ret; exact ⟨rfl, (by repeat (first | (with_reducible exact Below.refl _ _) | (with_reducible refine K.b_bel ?_ (by assumption)) | (with_reducible refine K.b_alloc ?_ _) | (with_reducible refine K.b_drewN ?_ _) | (with_reducible refine K.b_drew ?_) | (with_reducible refine K.b_set ?_ (by first | omega | (simp <;> omega)) _) | (with_reducible refine K.b_only ?_ (by assumption) (by first | omega | (simp <;> omega)))))⟩)
    | (go_ret; exact ⟨K.ret_bool (by ((try clear hC0); (try clear hF0); (try clear hc0); (try clear hf0); (try clear hB0); (try clear hO0); (try clear hA0); (try clear hC1); (try clear hF1); (try clear hc1); (try clear hf1); (try clear hB1); (try clear hO1); (try clear hA1); (try clear hC2); (try clear hF2); (try clear hc2); (try clear hf2); (try clear hB2); (try clear hO2); (try clear hA2); (try clear hC3); (try clear hF3); (try clear hc3); (try clear hf3); (try clear hB3); (try clear hO3); (try clear hA3); (try clear hC4); (try clear hF4); (try clear hc4); (try clear hf4); (try clear hB4); (try clear hO4); (try clear hA4); (try clear hC5); (try clear hF5); (try clear hc5); (try clear hf5); (try clear hB5); (try clear hO5); (try clear hA5); go_light); simp_all), (by repeat (first | (with_reducible exact Below.refl _ _) | (with_reducible refine K.b_bel ?_ (by assumption)) | (with_reducible refine K.b_alloc ?_ _) | (with_reducible refine K.b_drewN ?_ _) | (with_reducible refine K.b_drew ?_) | (with_reducible refine K.b_set ?_ (by first | omega | (simp <;> omega)) _) | (with_reducible refine K.b_only ?_ (by assumption) (by first | omega | (simp <;> omega)))))⟩)
    | (exfalso; rcases Hh.out with h | h | h; exact h (by first | assumption | exact Bool.eq_false_iff.2 (by assumption) | exact K.not_t (by assumption) | exact K.not_f (by assumption) | exact beq_iff_eq.1 (by assumption) | exact beq_eq_false_iff_ne.1 (by assumption) | (exact of_decide_eq_true (by assumption)) | (exact of_decide_eq_false (by assumption)) | omega); omega; omega)
end Go.Proofs.Ytkckehpcdjlcpaa.Brk
