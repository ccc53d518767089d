/- The laws' walks: the page's example, and BreakerMay. -/
import Derived.Test.YtkckehpcdjlcpaaBrkW5
namespace Go.Proofs.Ytkckehpcdjlcpaa.Brk
open Go.RowKit Go.Proofs.Ytkckehpcdjlcpaa
attribute [local go_sem] K.max2_int K.min2_int K.max_two K.min_two K.max_three K.min_three
set_option linter.unusedVariables false
set_option linter.unusedSimpArgs false
theorem num_c (a : Int) (w : World) : Calls Try.prog 10 #[.int .i64 a] w fun e w' => e = .returned (.int .i64 a) ∧ w' = w := by
  go_enter Try.func10, Try.ntmps10
  go_wp2
  go_ret
  exact ⟨rfl, rfl⟩
theorem End_alive (w : World) : Calls Try.prog 12 #[.agg #[.int .i64 0, .int .i64 0, .int .i64 0, .int .i64 0, .int .i64 0], .agg #[.int .i64 1, .int .i64 5, .int .i64 1], .int .i64 3, .bool false, .bool false] w fun e w' =>
    e = .returned (.tuple #[.agg #[.int .i64 1, .int .i64 0, .int .i64 8, .int .i64 0, .int .i64 0], .int .i64 0]) ∧ Below w.heap.size w w' := by
  have h := End_c ⟨0, 0, 0, 0, 0⟩ ⟨1, 5, 1⟩ 3 false false w
  rw [show oEnd ⟨0, 0, 0, 0, 0⟩ ⟨1, 5, 1⟩ 3 false false = ⟨1, 0, 8, 0, 0⟩ from by rfl, show chk ⟨0, 0, 0, 0, 0⟩ ⟨1, 5, 1⟩ 3 = 0 from by decide] at h
  exact h
theorem Allows_alive (w : World) : Calls Try.prog 15 #[.agg #[.int .i64 1, .int .i64 0, .int .i64 8, .int .i64 0, .int .i64 0], .agg #[.int .i64 1, .int .i64 5, .int .i64 1], .int .i64 4] w fun e w' =>
    e = .returned (.tuple #[.bool false, .int .i64 0]) ∧ Below w.heap.size w w' := by
  have h := Allows_c ⟨1, 0, 8, 0, 0⟩ ⟨1, 5, 1⟩ 4 w
  rw [show oAllows ⟨1, 0, 8, 0, 0⟩ ⟨1, 5, 1⟩ 4 = false from by decide, show chk ⟨1, 0, 8, 0, 0⟩ ⟨1, 5, 1⟩ 4 = 0 from by decide] at h
  exact h
set_option maxHeartbeats 1000000 in
theorem alive_c (w : World) : Calls Try.prog 8 #[] w fun e w' => e = .returned (.bool true) ∧ Below w.heap.size w w' := by
  go_enter Try.func8, Try.ntmps8
  go_wp2_with (first | (go_at_call 12; (with_reducible refine (End_alive _).mono ?_); rintro e W1 ⟨rfl, hb1⟩; obtain ⟨hB1, hC1, hF1, hZ1⟩ := K.bel_facts hb1; clear hb1) | (go_at_call 15; (with_reducible refine (Allows_alive _).mono ?_); rintro e W2 ⟨rfl, hb2⟩; obtain ⟨hB2, hC2, hF2, hZ2⟩ := K.bel_facts hb2; clear hb2) | (go_at_call 10; (with_reducible refine (num_c _ _).mono ?_); rintro e w' ⟨rfl, hw'⟩; have hw'2 := Eq.symm hw'; clear hw'; subst hw'2))
  go_ret
  exact ⟨rfl, (by repeat (first | (with_reducible exact Below.refl _ _) | (with_reducible refine K.b_bel ?_ (by assumption)) | (with_reducible refine K.b_alloc ?_ _) | (with_reducible refine K.b_drewN ?_ _) | (with_reducible refine K.b_drew ?_) | (with_reducible refine K.b_set ?_ (by first | omega | (simp <;> omega)) _) | (with_reducible refine K.b_only ?_ (by assumption) (by first | omega | (simp <;> omega)))))⟩

/-! ### BreakerMay -/
theorem Tick_ok (b : B) (s : S) (t : Int) (w : World) (h : chk b s t = 0) : Calls Try.prog 9 #[b.a, s.a, .int .i64 t] w fun e w' =>
    e = .returned (.tuple #[(on b t).a, .int .i64 0]) ∧ Below w.heap.size w w' := by
  have h2 := Tick_c b s t w
  rw [show oTick b s t = on b t from if_pos h, h] at h2
  exact h2
theorem Tick_bad (b : B) (s : S) (t : Int) (w : World) (h : ¬ chk b s t = 0) : Calls Try.prog 9 #[b.a, s.a, .int .i64 t] w fun e w' =>
    e = .returned (.tuple #[.agg #[.int .i64 0, .int .i64 0, .int .i64 0, .int .i64 0, .int .i64 0], .int .i64 (chk b s t)]) ∧ Below w.heap.size w w' := by
  have h2 := Tick_c b s t w
  rw [show oTick b s t = zero from if_neg h] at h2
  exact h2
theorem End_ok (b : B) (s : S) (t : Int) (p g : Bool) (w : World) (h : chk b s t = 0) : Calls Try.prog 12 #[b.a, s.a, .int .i64 t, .bool p, .bool g] w fun e w' =>
    e = .returned (.tuple #[(ends b s t p g).a, .int .i64 0]) ∧ Below w.heap.size w w' := by
  have h2 := End_c b s t p g w
  rw [show oEnd b s t p g = ends b s t p g from if_pos h, h] at h2
  exact h2
theorem Begin_yes (b : B) (s : S) (t : Int) (w : World) (h : eBegin b s t = 0) : Calls Try.prog 11 #[b.a, s.a, .int .i64 t] w fun e w' =>
    e = .returned (.tuple #[(begin b).a, .bool (pBegin b s t), .int .i64 0]) ∧ Below w.heap.size w w' := by
  have h2 := Begin_c b s t w
  rw [show oBegin b s t = begin b from if_pos h, h] at h2
  exact h2
theorem chk_ok (b : B) (s : S) (t : Int) (w : World) (h : chk b s t = 0) : Calls Try.prog 13 #[b.a, s.a, .int .i64 t] w fun e w' => e = .returned (.int .i64 0) ∧ Below w.heap.size w w' := by
  have h2 := chk_c b s t w
  rw [h] at h2
  exact h2
theorem chk_zero {b : B} {s : S} {t : Int} : chk b s t = 0 ↔ sets s = true ∧ (0 ≤ t ∧ t ≤ 536870912) ∧ state b = true := by
  unfold chk
  rw [show ((0 : Int) ≤ t ∧ t ≤ 536870912) = (inB t 0 536870912 = true) from by rw [inB_iff]]
  cases sets s <;> cases inB t 0 536870912 <;> cases state b <;> simp
theorem on_state {b : B} {t : Int} (h : state b = true) : state (on b t) = true := by
  rw [state_iff] at *
  unfold on
  split
  · simp only; omega
  · omega
theorem ends_state {b : B} {s : S} {t : Int} {p g : Bool} (hs : sets s = true) (ht : 0 ≤ t ∧ t ≤ 536870912) (h : state b = true) (h1 : b.fails ≠ 1000) (h2 : b.wins ≠ 1000) : state (ends b s t p g) = true := by
  rw [state_iff] at *
  rw [sets_iff] at hs
  unfold ends fails wins trip K.mx
  cases p <;> cases g <;> simp only [Bool.false_eq_true, if_false, if_true]
  all_goals (repeat' split)
  all_goals (first | omega | (simp only; omega))
theorem begin_state {b : B} (h : state b = true) (h2 : b.probes ≠ 1000) : state (begin b) = true := by
  rw [state_iff] at *
  unfold begin
  split
  · simp only; omega
  · omega


set_option maxHeartbeats 2000000 in
theorem May_go (b : B) (s : S) (t : Int) (p g : Bool) (w : World) (h : chk b s t = 0) (hq : b.fails ≠ 1000 ∧ b.probes ≠ 1000 ∧ b.wins ≠ 1000) : Calls Try.prog 3 #[b.a, s.a, .int .i64 t, .bool p, .bool g] w fun e w' =>
    e = .returned (.bool true) ∧ Below w.heap.size w w' := by
  obtain ⟨q1, q2, q3⟩ := hq
  have c1 : (b.fails == 1000) = false := beq_eq_false_iff_ne.2 q1
  have c2 : (b.probes == 1000) = false := beq_eq_false_iff_ne.2 q2
  have c3 : (b.wins == 1000) = false := beq_eq_false_iff_ne.2 q3
  obtain ⟨hs, ht, hb⟩ := chk_zero.1 h
  have Hon := K.H.mk (chk_zero.2 ⟨hs, ht, on_state hb⟩ : chk (on b t) s t = 0)
  have Hen := K.H.mk (chk_zero.2 ⟨hs, ht, ends_state hs ht hb q1 q3⟩ : chk (ends b s t p g) s t = 0)
  have Hbe := K.H.mk (chk_zero.2 ⟨hs, ht, begin_state hb q2⟩ : chk (begin b) s t = 0)
  have Hc := K.H.mk h
  clear h q1 q2 q3 hs ht hb
  by_cases he : eBegin b s t = 0
  · have He := K.H.mk he
    clear he
    go_enter Try.func3, Try.ntmps3
    go_wp2_with (first | (go_at_call 8; (with_reducible refine (alive_c _).mono ?_); rintro e W1 ⟨rfl, hb1⟩; obtain ⟨hB1, hC1, hF1, hZ1⟩ := K.bel_facts hb1; clear hb1; have hZZ := hZ1; (try simp at hZZ); have hz1_0 : w.heap.size < W1.heap.size := (by omega); have hz1_1 : w.heap.size + 1 < W1.heap.size := (by omega); clear hZZ) | (go_at_call 9; (with_reducible refine (Tick_ok b s t _ Hc.out).mono ?_); rintro e W2 ⟨rfl, hb2⟩; obtain ⟨hB2, hC2, hF2, hZ2⟩ := K.bel_facts hb2; clear hb2; have hZZ := hZ2; (try simp at hZZ); have hz2_0 : w.heap.size < W2.heap.size := (by omega); have hz2_1 : w.heap.size + 1 < W2.heap.size := (by omega); (try have hz2_1_0 : W1.heap.size < W2.heap.size := (by omega)); (try have hz2_1_1 : W1.heap.size + 1 < W2.heap.size := (by omega)); clear hZZ) | (go_at_call 11; (with_reducible refine (Begin_yes b s t _ He.out).mono ?_); rintro e W3 ⟨rfl, hb3⟩; obtain ⟨hB3, hC3, hF3, hZ3⟩ := K.bel_facts hb3; clear hb3; have hZZ := hZ3; (try simp at hZZ); have hz3_0 : w.heap.size < W3.heap.size := (by omega); have hz3_1 : w.heap.size + 1 < W3.heap.size := (by omega); (try have hz3_1_0 : W1.heap.size < W3.heap.size := (by omega)); (try have hz3_1_1 : W1.heap.size + 1 < W3.heap.size := (by omega)); (try have hz3_2_0 : W2.heap.size < W3.heap.size := (by omega)); (try have hz3_2_1 : W2.heap.size + 1 < W3.heap.size := (by omega)); clear hZZ) | (go_at_call 12; (with_reducible refine (End_ok b s t p g _ Hc.out).mono ?_); rintro e W4 ⟨rfl, hb4⟩; obtain ⟨hB4, hC4, hF4, hZ4⟩ := K.bel_facts hb4; clear hb4; have hZZ := hZ4; (try simp at hZZ); have hz4_0 : w.heap.size < W4.heap.size := (by omega); have hz4_1 : w.heap.size + 1 < W4.heap.size := (by omega); (try have hz4_1_0 : W1.heap.size < W4.heap.size := (by omega)); (try have hz4_1_1 : W1.heap.size + 1 < W4.heap.size := (by omega)); (try have hz4_2_0 : W2.heap.size < W4.heap.size := (by omega)); (try have hz4_2_1 : W2.heap.size + 1 < W4.heap.size := (by omega)); (try have hz4_3_0 : W3.heap.size < W4.heap.size := (by omega)); (try have hz4_3_1 : W3.heap.size + 1 < W4.heap.size := (by omega)); clear hZZ) | (go_at_call 10; (with_reducible refine (num_c _ _).mono ?_); rintro e w' ⟨rfl, hw'⟩; have hw'2 := Eq.symm hw'; clear hw'; subst hw'2))
    refine K.wp_region_ext_lit (by kernel_rfl) (by kernel_rfl) ?_
    repeat (any_goals (first | go_big_quiet_skip | quiet_step ((first | (go_at_call 13; first | (with_reducible exact K.q_below (chk_ok (on b t) s t _ Hon.out)) | (with_reducible exact K.q_below (chk_ok (begin b) s t _ Hbe.out)) | (with_reducible exact K.q_below (chk_ok (ends b s t p g) s t _ Hen.out))) | (go_at_call 10; first | (with_reducible exact K.q_same (num_c _ _))))) | (refine wpQuiet_step (fun K hK => ?_); go_simp; split <;> (refine hK _ ?_; clear hK K))))
    all_goals (refine wpQuiet_nil ?_; intro W5 hW5; obtain ⟨hB5, hC5, hF5, hZ5⟩ := K.ext_facts hW5; clear hW5)
    all_goals go_wp2
    all_goals (go_ret; exact ⟨rfl, (by repeat (first | (with_reducible exact Below.refl _ _) | (with_reducible refine K.b_bel ?_ (by assumption)) | (with_reducible refine K.b_alloc ?_ _) | (with_reducible refine K.b_drewN ?_ _) | (with_reducible refine K.b_drew ?_) | (with_reducible refine K.b_set ?_ (by first | omega | (simp <;> omega)) _) | (with_reducible refine K.b_only ?_ (by assumption) (by first | omega | (simp <;> omega)))))⟩)
  · have he2 : (eBegin b s t != 0) = true := by simpa using he
    clear he
    go_enter Try.func3, Try.ntmps3
    go_wp2_with (first | (go_at_call 8; (with_reducible refine (alive_c _).mono ?_); rintro e W1 ⟨rfl, hb1⟩; obtain ⟨hB1, hC1, hF1, hZ1⟩ := K.bel_facts hb1; clear hb1; have hZZ := hZ1; (try simp at hZZ); have hz1_0 : w.heap.size < W1.heap.size := (by omega); have hz1_1 : w.heap.size + 1 < W1.heap.size := (by omega); clear hZZ) | (go_at_call 9; (with_reducible refine (Tick_ok b s t _ Hc.out).mono ?_); rintro e W2 ⟨rfl, hb2⟩; obtain ⟨hB2, hC2, hF2, hZ2⟩ := K.bel_facts hb2; clear hb2; have hZZ := hZ2; (try simp at hZZ); have hz2_0 : w.heap.size < W2.heap.size := (by omega); have hz2_1 : w.heap.size + 1 < W2.heap.size := (by omega); (try have hz2_1_0 : W1.heap.size < W2.heap.size := (by omega)); (try have hz2_1_1 : W1.heap.size + 1 < W2.heap.size := (by omega)); clear hZZ) | (go_at_call 11; (with_reducible refine (Begin_c b s t _).mono ?_); rintro e W3 ⟨rfl, hb3⟩; obtain ⟨hB3, hC3, hF3, hZ3⟩ := K.bel_facts hb3; clear hb3; have hZZ := hZ3; (try simp at hZZ); have hz3_0 : w.heap.size < W3.heap.size := (by omega); have hz3_1 : w.heap.size + 1 < W3.heap.size := (by omega); (try have hz3_1_0 : W1.heap.size < W3.heap.size := (by omega)); (try have hz3_1_1 : W1.heap.size + 1 < W3.heap.size := (by omega)); (try have hz3_2_0 : W2.heap.size < W3.heap.size := (by omega)); (try have hz3_2_1 : W2.heap.size + 1 < W3.heap.size := (by omega)); clear hZZ) | (go_at_call 12; (with_reducible refine (End_ok b s t p g _ Hc.out).mono ?_); rintro e W4 ⟨rfl, hb4⟩; obtain ⟨hB4, hC4, hF4, hZ4⟩ := K.bel_facts hb4; clear hb4; have hZZ := hZ4; (try simp at hZZ); have hz4_0 : w.heap.size < W4.heap.size := (by omega); have hz4_1 : w.heap.size + 1 < W4.heap.size := (by omega); (try have hz4_1_0 : W1.heap.size < W4.heap.size := (by omega)); (try have hz4_1_1 : W1.heap.size + 1 < W4.heap.size := (by omega)); (try have hz4_2_0 : W2.heap.size < W4.heap.size := (by omega)); (try have hz4_2_1 : W2.heap.size + 1 < W4.heap.size := (by omega)); (try have hz4_3_0 : W3.heap.size < W4.heap.size := (by omega)); (try have hz4_3_1 : W3.heap.size + 1 < W4.heap.size := (by omega)); clear hZZ) | (go_at_call 10; (with_reducible refine (num_c _ _).mono ?_); rintro e w' ⟨rfl, hw'⟩; have hw'2 := Eq.symm hw'; clear hw'; subst hw'2))
    refine K.wp_region_ext_lit (by kernel_rfl) (by kernel_rfl) ?_
    repeat (any_goals (first | go_big_quiet_skip | quiet_step ((first | (go_at_call 13; first | (with_reducible exact K.q_below (chk_ok (on b t) s t _ Hon.out)) | (with_reducible exact K.q_below (chk_ok (ends b s t p g) s t _ Hen.out))) | (go_at_call 10; first | (with_reducible exact K.q_same (num_c _ _))))) | (refine wpQuiet_step (fun K hK => ?_); go_simp; split <;> (refine hK _ ?_; clear hK K))))
    all_goals (refine wpQuiet_nil ?_; intro W5 hW5; obtain ⟨hB5, hC5, hF5, hZ5⟩ := K.ext_facts hW5; clear hW5)
    all_goals go_wp2
    all_goals (go_ret; exact ⟨rfl, (by repeat (first | (with_reducible exact Below.refl _ _) | (with_reducible refine K.b_bel ?_ (by assumption)) | (with_reducible refine K.b_alloc ?_ _) | (with_reducible refine K.b_drewN ?_ _) | (with_reducible refine K.b_drew ?_) | (with_reducible refine K.b_set ?_ (by first | omega | (simp <;> omega)) _) | (with_reducible refine K.b_only ?_ (by assumption) (by first | omega | (simp <;> omega)))))⟩)
set_option maxHeartbeats 2000000 in
theorem May_end (b : B) (s : S) (t : Int) (p g : Bool) (w : World) (h : chk b s t = 0) (hq : ¬ (b.fails ≠ 1000 ∧ b.probes ≠ 1000 ∧ b.wins ≠ 1000)) : Calls Try.prog 3 #[b.a, s.a, .int .i64 t, .bool p, .bool g] w fun e w' =>
    e = .returned (.bool true) ∧ Below w.heap.size w w' := by
  have Hc := K.H.mk h
  have Hq := K.H.mk hq
  clear h hq
  go_enter Try.func3, Try.ntmps3
  go_wp2_with (first | (go_at_call 8; (with_reducible refine (alive_c _).mono ?_); rintro e W1 ⟨rfl, hb1⟩; obtain ⟨hB1, hC1, hF1, hZ1⟩ := K.bel_facts hb1; clear hb1; have hZZ := hZ1; (try simp at hZZ); have hz1_0 : w.heap.size < W1.heap.size := (by omega); have hz1_1 : w.heap.size + 1 < W1.heap.size := (by omega); clear hZZ) | (go_at_call 9; (with_reducible refine (Tick_ok b s t _ Hc.out).mono ?_); rintro e W2 ⟨rfl, hb2⟩; obtain ⟨hB2, hC2, hF2, hZ2⟩ := K.bel_facts hb2; clear hb2; have hZZ := hZ2; (try simp at hZZ); have hz2_0 : w.heap.size < W2.heap.size := (by omega); have hz2_1 : w.heap.size + 1 < W2.heap.size := (by omega); (try have hz2_1_0 : W1.heap.size < W2.heap.size := (by omega)); (try have hz2_1_1 : W1.heap.size + 1 < W2.heap.size := (by omega)); clear hZZ) | (go_at_call 11; (with_reducible refine (Begin_c b s t _).mono ?_); rintro e W3 ⟨rfl, hb3⟩; obtain ⟨hB3, hC3, hF3, hZ3⟩ := K.bel_facts hb3; clear hb3; have hZZ := hZ3; (try simp at hZZ); have hz3_0 : w.heap.size < W3.heap.size := (by omega); have hz3_1 : w.heap.size + 1 < W3.heap.size := (by omega); (try have hz3_1_0 : W1.heap.size < W3.heap.size := (by omega)); (try have hz3_1_1 : W1.heap.size + 1 < W3.heap.size := (by omega)); (try have hz3_2_0 : W2.heap.size < W3.heap.size := (by omega)); (try have hz3_2_1 : W2.heap.size + 1 < W3.heap.size := (by omega)); clear hZZ) | (go_at_call 12; (with_reducible refine (End_ok b s t p g _ Hc.out).mono ?_); rintro e W4 ⟨rfl, hb4⟩; obtain ⟨hB4, hC4, hF4, hZ4⟩ := K.bel_facts hb4; clear hb4; have hZZ := hZ4; (try simp at hZZ); have hz4_0 : w.heap.size < W4.heap.size := (by omega); have hz4_1 : w.heap.size + 1 < W4.heap.size := (by omega); (try have hz4_1_0 : W1.heap.size < W4.heap.size := (by omega)); (try have hz4_1_1 : W1.heap.size + 1 < W4.heap.size := (by omega)); (try have hz4_2_0 : W2.heap.size < W4.heap.size := (by omega)); (try have hz4_2_1 : W2.heap.size + 1 < W4.heap.size := (by omega)); (try have hz4_3_0 : W3.heap.size < W4.heap.size := (by omega)); (try have hz4_3_1 : W3.heap.size + 1 < W4.heap.size := (by omega)); clear hZZ) | (go_at_call 10; (with_reducible refine (num_c _ _).mono ?_); rintro e w' ⟨rfl, hw'⟩; have hw'2 := Eq.symm hw'; clear hw'; subst hw'2))
  all_goals first
    | (go_ret; exact ⟨rfl, (by repeat (first | (with_reducible exact Below.refl _ _) | (with_reducible refine K.b_bel ?_ (by assumption)) | (with_reducible refine K.b_alloc ?_ _) | (with_reducible refine K.b_drewN ?_ _) | (with_reducible refine K.b_drew ?_) | (with_reducible refine K.b_set ?_ (by first | omega | (simp <;> omega)) _) | (with_reducible refine K.b_only ?_ (by assumption) (by first | omega | (simp <;> omega)))))⟩)
    | (exfalso; apply Hq.out; ((try clear hC0); (try clear hF0); (try clear hc0); (try clear hf0); (try clear hB0); (try clear hO0); (try clear hA0); (try clear hC1); (try clear hF1); (try clear hc1); (try clear hf1); (try clear hB1); (try clear hO1); (try clear hA1); (try clear hC2); (try clear hF2); (try clear hc2); (try clear hf2); (try clear hB2); (try clear hO2); (try clear hA2); (try clear hC3); (try clear hF3); (try clear hc3); (try clear hf3); (try clear hB3); (try clear hO3); (try clear hA3); (try clear hC4); (try clear hF4); (try clear hc4); (try clear hf4); (try clear hB4); (try clear hO4); (try clear hA4); (try clear hC5); (try clear hF5); (try clear hc5); (try clear hf5); (try clear hB5); (try clear hO5); (try clear hA5); go_light); simp_all)
set_option maxHeartbeats 2000000 in
theorem May_bad (b : B) (s : S) (t : Int) (p g : Bool) (w : World) (h : ¬ chk b s t = 0) : Calls Try.prog 3 #[b.a, s.a, .int .i64 t, .bool p, .bool g] w fun e w' =>
    e = .returned (.bool true) ∧ Below w.heap.size w w' := by
  have h2 : (chk b s t != 0) = true := by simpa using h
  have Hc := K.H.mk h
  clear h
  go_enter Try.func3, Try.ntmps3
  go_wp2_with (first | (go_at_call 8; (with_reducible refine (alive_c _).mono ?_); rintro e W1 ⟨rfl, hb1⟩; obtain ⟨hB1, hC1, hF1, hZ1⟩ := K.bel_facts hb1; clear hb1; have hZZ := hZ1; (try simp at hZZ); have hz1_0 : w.heap.size < W1.heap.size := (by omega); have hz1_1 : w.heap.size + 1 < W1.heap.size := (by omega); clear hZZ) | (go_at_call 9; (with_reducible refine (Tick_bad b s t _ Hc.out).mono ?_); rintro e W2 ⟨rfl, hb2⟩; obtain ⟨hB2, hC2, hF2, hZ2⟩ := K.bel_facts hb2; clear hb2; have hZZ := hZ2; (try simp at hZZ); have hz2_0 : w.heap.size < W2.heap.size := (by omega); have hz2_1 : w.heap.size + 1 < W2.heap.size := (by omega); (try have hz2_1_0 : W1.heap.size < W2.heap.size := (by omega)); (try have hz2_1_1 : W1.heap.size + 1 < W2.heap.size := (by omega)); clear hZZ) | (go_at_call 10; (with_reducible refine (num_c _ _).mono ?_); rintro e w' ⟨rfl, hw'⟩; have hw'2 := Eq.symm hw'; clear hw'; subst hw'2))
  all_goals (go_ret; exact ⟨rfl, (by repeat (first | (with_reducible exact Below.refl _ _) | (with_reducible refine K.b_bel ?_ (by assumption)) | (with_reducible refine K.b_alloc ?_ _) | (with_reducible refine K.b_drewN ?_ _) | (with_reducible refine K.b_drew ?_) | (with_reducible refine K.b_set ?_ (by first | omega | (simp <;> omega)) _) | (with_reducible refine K.b_only ?_ (by assumption) (by first | omega | (simp <;> omega)))))⟩)
theorem May_c (b : B) (s : S) (t : Int) (p g : Bool) (w : World) : Calls Try.prog 3 #[b.a, s.a, .int .i64 t, .bool p, .bool g] w fun e w' =>
    e = .returned (.bool true) ∧ Below w.heap.size w w' := by
  by_cases h : chk b s t = 0
  · by_cases hq : b.fails ≠ 1000 ∧ b.probes ≠ 1000 ∧ b.wins ≠ 1000
    · exact May_go b s t p g w h hq
    · exact May_end b s t p g w h hq
  · exact May_bad b s t p g w h
end Go.Proofs.Ytkckehpcdjlcpaa.Brk
