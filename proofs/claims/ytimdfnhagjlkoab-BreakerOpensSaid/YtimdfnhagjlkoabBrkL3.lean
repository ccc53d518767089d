/- BreakerOpens. -/
import Derived.Test.YtimdfnhagjlkoabBrkL2
namespace Go.Proofs.Ytimdfnhagjlkoab.Brk
open Go.RowKit Go.Proofs.Ytimdfnhagjlkoab
attribute [local go_sem] K.max2_int K.min2_int K.max_two K.min_two K.max_three K.min_three
set_option linter.unusedVariables false
set_option linter.unusedSimpArgs false
abbrev cells (b : B) : Array Value := #[.int .i64 b.mode, .int .i64 b.fails, .int .i64 b.til, .int .i64 b.probes, .int .i64 b.wins]
set_option maxRecDepth 100000 in
set_option maxHeartbeats 4000000 in
theorem Opens_yes (s : S) (t e : Int) (w : World) (h : chk zero s t = 0) (ht : t ≤ 268435456) (hf : s.fails ≤ 100) : Calls Try.prog 4 #[s.a, .int .i64 t, .int .i64 e] w fun e w' =>
    e = .returned (.bool true) ∧ Below w.heap.size w w' := by
  obtain ⟨hs, ⟨ht0, _⟩, _⟩ := chk_zero.1 h
  have hsi := (sets_iff s).1 hs
  obtain ⟨⟨f0, f1⟩, ⟨o0, o1⟩, ⟨p0, p1⟩⟩ := hsi
  have H0 : ∀ W, Calls Try.prog 14 #[.agg #[.int .i64 0, .int .i64 0, .int .i64 0, .int .i64 0, .int .i64 0], s.a, .int .i64 t] W fun e w' => e = .returned (.int .i64 0) ∧ Below W.heap.size W w' := fun W => by
    have h2 := rchk_c zero s t W
    rw [h] at h2; exact h2
  have G0 := K.H.mk H0
  have Hs := K.H.mk hs
  have hoz : ¬ s.opn = 0 := by omega
  clear h H0 hs
  go_enter Try.func4, Try.ntmps4
  go_wp2_with (first | (go_at_call 8; (with_reducible refine (alive_c _).mono ?_); rintro e W1 ⟨rfl, hb1⟩; obtain ⟨hB1, hC1, hF1, hZ1⟩ := K.bel_facts hb1; clear hb1; have hZZ := hZ1; (try simp at hZZ); have hz1_0 : w.heap.size < W1.heap.size := (by omega); clear hZZ) | (go_at_call 14; (with_reducible refine (G0.out _).mono ?_); rintro e W2 ⟨rfl, hb2⟩; obtain ⟨hB2, hC2, hF2, hZ2⟩ := K.bel_facts hb2; clear hb2; have hZZ := hZ2; (try simp at hZZ); have hz2_0 : w.heap.size < W2.heap.size := (by omega); (try have hz2_1_0 : W1.heap.size < W2.heap.size := (by omega)); (try have hz2_1_1 : W1.heap.size + 1 < W2.heap.size := (by omega)); clear hZZ))
  have hA0 : K.At (W2.alloc (.cells #[.int .i64 0, .int .i64 0, .int .i64 0, .int .i64 0, .int .i64 0] 23)) w.heap.size 25 #[.int .i64 s.fails, .int .i64 s.opn, .int .i64 s.probes] := (by refine K.At.cast (by repeat (first | (with_reducible refine K.At.new' _ _ _ _ (by first | rfl | (simp; done) | omega)) | (with_reducible apply K.At.over hB1) | (with_reducible apply K.At.over hB2) | (with_reducible apply K.At.set) | (with_reducible apply K.At.alloc) | (with_reducible apply K.At.drewN) | (with_reducible apply K.At.drew) | (with_reducible apply K.At.far) | omega | (simp; omega))) ?_; rfl)
  have hA1 : K.At (W2.alloc (.cells #[.int .i64 0, .int .i64 0, .int .i64 0, .int .i64 0, .int .i64 0] 23)) W2.heap.size 23 #[.int .i64 0, .int .i64 0, .int .i64 0, .int .i64 0, .int .i64 0] := K.At.new _ _ _
  refine K.wp_gen (fun W => K.At W w.heap.size 25 #[.int .i64 s.fails, .int .i64 s.opn, .int .i64 s.probes] ∧ K.At W W2.heap.size 23 #[.int .i64 0, .int .i64 0, .int .i64 0, .int .i64 0, .int .i64 0] ∧ Below w.heap.size w W) ⟨hA0, hA1, (by repeat (first | (with_reducible exact Below.refl _ _) | (with_reducible refine K.b_bel ?_ (by assumption)) | (with_reducible refine K.b_alloc ?_ _) | (with_reducible refine K.b_drewN ?_ _) | (with_reducible refine K.b_drew ?_) | (with_reducible refine K.b_set ?_ (by first | omega | (simp; omega)) _) | (with_reducible refine K.b_only ?_ (by assumption) (by first | omega | (simp; omega)))))⟩ ?_
  rintro W3 ⟨hA2, hA3, hb3⟩
  have Hb3 := K.H.mk hb3
  have hne : w.heap.size < W2.heap.size := hz2_0
  generalize W2.heap.size = g at hA3 hne ⊢
  clear hA0 hA1 hB1 hC1 hF1 hZ1 hB2 hC2 hF2 hZ2 hz1_0 hz2_0 hb3
  go_loopw [8] (fun i wr => ∃ k : Nat, (k : Int) ≤ s.fails ∧ i = .int .i64 k ∧ K.At wr w.heap.size 25 #[.int .i64 s.fails, .int .i64 s.opn, .int .i64 s.probes] ∧ K.At wr g 23 (cells (bad s t k)) ∧ K.H (Below w.heap.size w wr)) (fun i _ => (s.fails - intOf i).toNat)
  case atStart => exact ⟨0, by omega, rfl, hA2, by unfold bad; rw [if_pos (by omega)]; exact hA3, Hb3⟩
  case round =>
    clear hA2 hA3 Hb3
    obtain ⟨k, hk, rfl, hA2, hA3, Hb3⟩ := hrel
    obtain ⟨hc2, hf2, hl2⟩ := K.At.facts hA2
    obtain ⟨hc3, hf3, hl3⟩ := K.At.facts hA3
    have hn1 : w.heap.size ≠ g := by omega
    have hn2 : g ≠ w.heap.size := by omega
    by_cases hlt : (k : Int) < s.fails
    · have hm : ((bad s t k).mode != 0) = false := by unfold bad; rw [if_pos hlt]; rfl
      have Hc := K.H.mk (bad_chk (k := k) Hs.out ht0 ht hf)
      have He := K.H.mk (bad_step (t := t) hlt)
      go_wp2_with (first | (go_at_call 12; (with_reducible refine (End_ok (bad s t k) s t false false _ Hc.out).mono ?_); rintro e W4 ⟨rfl, hb4⟩; obtain ⟨hB4, hC4, hF4, hZ4⟩ := K.bel_facts hb4; clear hb4; have hZZ := hZ4; (try simp at hZZ); have hz4_0 : w.heap.size < W4.heap.size := (by omega); (try have hz4_1_0 : W1.heap.size < W4.heap.size := (by omega)); (try have hz4_1_1 : W1.heap.size + 1 < W4.heap.size := (by omega)); (try have hz4_2_0 : W2.heap.size < W4.heap.size := (by omega)); (try have hz4_2_1 : W2.heap.size + 1 < W4.heap.size := (by omega)); (try have hz4_3_0 : W3.heap.size < W4.heap.size := (by omega)); (try have hz4_3_1 : W3.heap.size + 1 < W4.heap.size := (by omega)); clear hZZ))
      go_roundw
      case rel => exact ⟨k + 1, by omega, by go_num, (by refine K.At.cast (by repeat (first | (with_reducible exact hA2) | (with_reducible refine K.At.new' _ _ _ _ (by first | rfl | (simp; done) | omega)) | (with_reducible apply K.At.over hB4) | (with_reducible apply K.At.set) | (with_reducible apply K.At.alloc) | (with_reducible apply K.At.drewN) | (with_reducible apply K.At.drew) | (with_reducible apply K.At.far) | omega | (simp; omega))) ?_; rfl), (by refine K.At.cast (by repeat (first | (with_reducible exact hA3) | (with_reducible refine K.At.new' _ _ _ _ (by first | rfl | (simp; done) | omega)) | (with_reducible apply K.At.over hB4) | (with_reducible apply K.At.set) | (with_reducible apply K.At.alloc) | (with_reducible apply K.At.drewN) | (with_reducible apply K.At.drew) | (with_reducible apply K.At.far) | omega | (simp; omega))) ?_; rw [← He.out]; rfl), ⟨(by repeat (first | (with_reducible exact Below.refl _ _) | (with_reducible exact Hb3.out) | (with_reducible refine K.b_bel ?_ (by assumption)) | (with_reducible refine K.b_alloc ?_ _) | (with_reducible refine K.b_drewN ?_ _) | (with_reducible refine K.b_drew ?_) | (with_reducible refine K.b_set ?_ (by first | omega | (simp; omega)) _) | (with_reducible refine K.b_only ?_ (by assumption) (by first | omega | (simp; omega)))))⟩⟩
      case measure => simp [intOf]; omega
    · have hk2 : (k : Int) = s.fails := by omega
      have hb : bad s t k = ⟨1, 0, t + s.opn, 0, 0⟩ := by unfold bad; rw [if_neg hlt]
      rw [hb] at hA3 hc3
      have hkx := K.H.mk hk2
      have hge : s.fails ≤ (k : Int) := by omega
      clear hb hk2 hk hlt
      go_wp2
      have hbd := emod_bounds (e := e) o0
      have htm : -s.opn < e.tmod s.opn ∧ e.tmod s.opn < s.opn := ⟨by have := Int.lt_tmod_of_pos e (show 0 < s.opn by omega); omega, Int.tmod_lt_of_pos _ (by omega)⟩
      skip
      have hw0 : IntKind.i64.wrap (e.tmod s.opn + s.opn) = e.tmod s.opn + s.opn := K.i64_in (by omega) (by omega)
      refine K.wp_region_ext_lit (by kernel_rfl) (by kernel_rfl) ?_
      repeat (any_goals (first | go_big_quiet_skip | quiet_step (fail) | (refine wpQuiet_step (fun K hK => ?_); go_simp; split <;> (refine hK _ ?_; clear hK K))))
      all_goals (refine wpQuiet_nil ?_; intro W5 hW5; obtain ⟨hB5, hC5, hF5, hZ5⟩ := K.ext_facts hW5; clear hW5; have hZZ := hZ5; (try simp at hZZ); have hz5_0 : w.heap.size < W5.heap.size := (by omega); (try have hz5_1_0 : W1.heap.size < W5.heap.size := (by omega)); (try have hz5_1_1 : W1.heap.size + 1 < W5.heap.size := (by omega)); (try have hz5_2_0 : W2.heap.size < W5.heap.size := (by omega)); (try have hz5_2_1 : W2.heap.size + 1 < W5.heap.size := (by omega)); (try have hz5_3_0 : W3.heap.size < W5.heap.size := (by omega)); (try have hz5_3_1 : W3.heap.size + 1 < W5.heap.size := (by omega)); (try have hz5_4_0 : W4.heap.size < W5.heap.size := (by omega)); (try have hz5_4_1 : W4.heap.size + 1 < W5.heap.size := (by omega)); (try have hz5_g : g < W5.heap.size := (by omega)); clear hZZ; have hA2_5 := K.At.bel hA2 hB5; have hA3_5 := K.At.bel hA3 hB5)
      clear hw0 htm
      generalize (e.tmod s.opn + s.opn).tmod s.opn = E at *
      obtain ⟨E0, E1⟩ := hbd
      have HcE := K.H.mk (chk_nil (b := ⟨1, 0, t + s.opn, 0, 0⟩) (t := t + E) Hs.out (by omega) (by omega) (by simp only; omega))
      have HoE := K.H.mk (show on ⟨1, 0, t + s.opn, 0, 0⟩ (t + E) = ⟨1, 0, t + s.opn, 0, 0⟩ from by unfold on; rw [if_neg (by simp only; omega)])
      have HT : ∀ W, Calls Try.prog 9 #[.agg #[.int .i64 1, .int .i64 0, .int .i64 (t + s.opn), .int .i64 0, .int .i64 0], s.a, .int .i64 (t + E)] W fun e w' => e = .returned (.tuple #[.agg #[.int .i64 1, .int .i64 0, .int .i64 (t + s.opn), .int .i64 0, .int .i64 0], .int .i64 0]) ∧ Below W.heap.size W w' := fun W => by
        have h2 := Tick_ok ⟨1, 0, t + s.opn, 0, 0⟩ s (t + E) W HcE.out
        rw [HoE.out] at h2; exact h2
      have HL : ∀ W, Calls Try.prog 15 #[.agg #[.int .i64 1, .int .i64 0, .int .i64 (t + s.opn), .int .i64 0, .int .i64 0], s.a, .int .i64 (t + E)] W fun e w' => e = .returned (.tuple #[.bool false, .int .i64 0]) ∧ Below W.heap.size W w' := fun W => by
        have h2 := Allows_c ⟨1, 0, t + s.opn, 0, 0⟩ s (t + E) W
        rw [HcE.out, show oAllows ⟨1, 0, t + s.opn, 0, 0⟩ s (t + E) = false from by simp [oAllows, allows]] at h2; exact h2
      have GT := K.H.mk HT
      have GL := K.H.mk HL
      clear HT HL
      have HcO := K.H.mk (chk_nil (b := ⟨1, 0, t + s.opn, 0, 0⟩) (t := t + s.opn) Hs.out (by omega) (by omega) (by simp only; omega))
      have HoO := K.H.mk (show on ⟨1, 0, t + s.opn, 0, 0⟩ (t + s.opn) = ⟨2, 0, t + s.opn, 0, 0⟩ from by unfold on; rw [if_pos ⟨rfl, Int.le_refl _⟩])
      have HT2 : ∀ W, Calls Try.prog 9 #[.agg #[.int .i64 1, .int .i64 0, .int .i64 (t + s.opn), .int .i64 0, .int .i64 0], s.a, .int .i64 (t + s.opn)] W fun e w' => e = .returned (.tuple #[.agg #[.int .i64 2, .int .i64 0, .int .i64 (t + s.opn), .int .i64 0, .int .i64 0], .int .i64 0]) ∧ Below W.heap.size W w' := fun W => by
        have h2 := Tick_ok ⟨1, 0, t + s.opn, 0, 0⟩ s (t + s.opn) W HcO.out
        rw [HoO.out] at h2; exact h2
      have GO := K.H.mk HT2
      clear HT2
      go_wp2_with (first | (go_at_call 9; (with_reducible refine (GT.out _).mono ?_); rintro e W6 ⟨rfl, hb6⟩; obtain ⟨hB6, hC6, hF6, hZ6⟩ := K.bel_facts hb6; clear hb6; have hZZ := hZ6; (try simp at hZZ); have hz6_0 : w.heap.size < W6.heap.size := (by omega); (try have hz6_1_0 : W1.heap.size < W6.heap.size := (by omega)); (try have hz6_1_1 : W1.heap.size + 1 < W6.heap.size := (by omega)); (try have hz6_2_0 : W2.heap.size < W6.heap.size := (by omega)); (try have hz6_2_1 : W2.heap.size + 1 < W6.heap.size := (by omega)); (try have hz6_3_0 : W3.heap.size < W6.heap.size := (by omega)); (try have hz6_3_1 : W3.heap.size + 1 < W6.heap.size := (by omega)); (try have hz6_4_0 : W4.heap.size < W6.heap.size := (by omega)); (try have hz6_4_1 : W4.heap.size + 1 < W6.heap.size := (by omega)); (try have hz6_5_0 : W5.heap.size < W6.heap.size := (by omega)); (try have hz6_5_1 : W5.heap.size + 1 < W6.heap.size := (by omega)); (try have hz6_g : g < W6.heap.size := (by omega)); clear hZZ) | (go_at_call 9; (with_reducible refine (GO.out _).mono ?_); rintro e W8 ⟨rfl, hb8⟩; obtain ⟨hB8, hC8, hF8, hZ8⟩ := K.bel_facts hb8; clear hb8; have hZZ := hZ8; (try simp at hZZ); have hz8_0 : w.heap.size < W8.heap.size := (by omega); (try have hz8_1_0 : W1.heap.size < W8.heap.size := (by omega)); (try have hz8_1_1 : W1.heap.size + 1 < W8.heap.size := (by omega)); (try have hz8_2_0 : W2.heap.size < W8.heap.size := (by omega)); (try have hz8_2_1 : W2.heap.size + 1 < W8.heap.size := (by omega)); (try have hz8_3_0 : W3.heap.size < W8.heap.size := (by omega)); (try have hz8_3_1 : W3.heap.size + 1 < W8.heap.size := (by omega)); (try have hz8_4_0 : W4.heap.size < W8.heap.size := (by omega)); (try have hz8_4_1 : W4.heap.size + 1 < W8.heap.size := (by omega)); (try have hz8_5_0 : W5.heap.size < W8.heap.size := (by omega)); (try have hz8_5_1 : W5.heap.size + 1 < W8.heap.size := (by omega)); (try have hz8_6_0 : W6.heap.size < W8.heap.size := (by omega)); (try have hz8_6_1 : W6.heap.size + 1 < W8.heap.size := (by omega)); (try have hz8_7_0 : W7.heap.size < W8.heap.size := (by omega)); (try have hz8_7_1 : W7.heap.size + 1 < W8.heap.size := (by omega)); (try have hz8_g : g < W8.heap.size := (by omega)); clear hZZ) | (go_at_call 15; (with_reducible refine (GL.out _).mono ?_); rintro e W7 ⟨rfl, hb7⟩; obtain ⟨hB7, hC7, hF7, hZ7⟩ := K.bel_facts hb7; clear hb7; have hZZ := hZ7; (try simp at hZZ); have hz7_0 : w.heap.size < W7.heap.size := (by omega); (try have hz7_1_0 : W1.heap.size < W7.heap.size := (by omega)); (try have hz7_1_1 : W1.heap.size + 1 < W7.heap.size := (by omega)); (try have hz7_2_0 : W2.heap.size < W7.heap.size := (by omega)); (try have hz7_2_1 : W2.heap.size + 1 < W7.heap.size := (by omega)); (try have hz7_3_0 : W3.heap.size < W7.heap.size := (by omega)); (try have hz7_3_1 : W3.heap.size + 1 < W7.heap.size := (by omega)); (try have hz7_4_0 : W4.heap.size < W7.heap.size := (by omega)); (try have hz7_4_1 : W4.heap.size + 1 < W7.heap.size := (by omega)); (try have hz7_5_0 : W5.heap.size < W7.heap.size := (by omega)); (try have hz7_5_1 : W5.heap.size + 1 < W7.heap.size := (by omega)); (try have hz7_6_0 : W6.heap.size < W7.heap.size := (by omega)); (try have hz7_6_1 : W6.heap.size + 1 < W7.heap.size := (by omega)); (try have hz7_g : g < W7.heap.size := (by omega)); clear hZZ) | (go_at_call 10; (with_reducible refine (num_c _ _).mono ?_); rintro e w' ⟨rfl, hw'⟩; have hw'2 := Eq.symm hw'; clear hw'; subst hw'2))
      refine K.wp_gen (fun W => K.At W w.heap.size 25 #[.int .i64 s.fails, .int .i64 s.opn, .int .i64 s.probes] ∧ K.At W g 23 (cells ⟨2, 0, t + s.opn, 0, 0⟩) ∧ Below w.heap.size w W) ⟨(by refine K.At.cast (by repeat (first | (with_reducible exact hA2_5) | (with_reducible refine K.At.new' _ _ _ _ (by first | rfl | (simp; done) | omega)) | (with_reducible apply K.At.over hB8) | (with_reducible apply K.At.over hB7) | (with_reducible apply K.At.over hB6) | (with_reducible apply K.At.set) | (with_reducible apply K.At.alloc) | (with_reducible apply K.At.drewN) | (with_reducible apply K.At.drew) | (with_reducible apply K.At.far) | omega | (simp; omega))) ?_; rfl), (by refine K.At.cast (by repeat (first | (with_reducible exact hA3_5) | (with_reducible refine K.At.new' _ _ _ _ (by first | rfl | (simp; done) | omega)) | (with_reducible apply K.At.over hB8) | (with_reducible apply K.At.over hB7) | (with_reducible apply K.At.over hB6) | (with_reducible apply K.At.set) | (with_reducible apply K.At.alloc) | (with_reducible apply K.At.drewN) | (with_reducible apply K.At.drew) | (with_reducible apply K.At.far) | omega | (simp; omega))) ?_; rfl), (by repeat (first | (with_reducible exact Below.refl _ _) | (with_reducible exact Hb3.out) | (with_reducible refine K.b_bel ?_ (by assumption)) | (with_reducible refine K.b_alloc ?_ _) | (with_reducible refine K.b_drewN ?_ _) | (with_reducible refine K.b_drew ?_) | (with_reducible refine K.b_set ?_ (by first | omega | (simp; omega)) _) | (with_reducible refine K.b_only ?_ (by assumption) (by first | omega | (simp; omega)))))⟩ ?_
      rintro W9 ⟨hP4, hP5, hb9⟩
      have Hb9 := K.H.mk hb9
      clear hb9
      ((try clear hC8); (try clear hF8); (try clear hZ8); (try clear hc8); (try clear hf8); (try clear hl8); (try clear hB8); (try clear hO8); (try clear hA8); (try clear hz8_0); (try clear hz8_1); (try clear hz8_2); (try clear hz8_3); (try clear hz8_1_0); (try clear hz8_1_1); (try clear hz8_2_0); (try clear hz8_2_1); (try clear hz8_3_0); (try clear hz8_3_1); (try clear hz8_4_0); (try clear hz8_4_1); (try clear hz8_5_0); (try clear hz8_5_1); (try clear hz8_6_0); (try clear hz8_6_1); (try clear hz8_7_0); (try clear hz8_7_1); (try clear hz8_g); (try clear hC7); (try clear hF7); (try clear hZ7); (try clear hc7); (try clear hf7); (try clear hl7); (try clear hB7); (try clear hO7); (try clear hA7); (try clear hz7_0); (try clear hz7_1); (try clear hz7_2); (try clear hz7_3); (try clear hz7_1_0); (try clear hz7_1_1); (try clear hz7_2_0); (try clear hz7_2_1); (try clear hz7_3_0); (try clear hz7_3_1); (try clear hz7_4_0); (try clear hz7_4_1); (try clear hz7_5_0); (try clear hz7_5_1); (try clear hz7_6_0); (try clear hz7_6_1); (try clear hz7_g); (try clear hC6); (try clear hF6); (try clear hZ6); (try clear hc6); (try clear hf6); (try clear hl6); (try clear hB6); (try clear hO6); (try clear hA6); (try clear hz6_0); (try clear hz6_1); (try clear hz6_2); (try clear hz6_3); (try clear hz6_1_0); (try clear hz6_1_1); (try clear hz6_2_0); (try clear hz6_2_1); (try clear hz6_3_0); (try clear hz6_3_1); (try clear hz6_4_0); (try clear hz6_4_1); (try clear hz6_5_0); (try clear hz6_5_1); (try clear hz6_g); (try clear hC5); (try clear hF5); (try clear hZ5); (try clear hc5); (try clear hf5); (try clear hl5); (try clear hB5); (try clear hO5); (try clear hA5); (try clear hz5_0); (try clear hz5_1); (try clear hz5_2); (try clear hz5_3); (try clear hz5_1_0); (try clear hz5_1_1); (try clear hz5_2_0); (try clear hz5_2_1); (try clear hz5_3_0); (try clear hz5_3_1); (try clear hz5_4_0); (try clear hz5_4_1); (try clear hz5_g); (try clear hA2_5); (try clear hA3_5); (try clear GT); (try clear GL); (try clear GO); (try clear HcE); (try clear HoE); (try clear HcO); (try clear HoO); (try clear hA2); (try clear hA3); (try clear hc2); (try clear hf2); (try clear hl2); (try clear hc3); (try clear hf3); (try clear hl3); (try clear Hb3))
      go_loopw [13, 10] (fun i er wr => ∃ k : Nat, (k : Int) ≤ s.probes ∧ i = .int .i64 k ∧ er = .int .i64 0 ∧ K.At wr w.heap.size 25 #[.int .i64 s.fails, .int .i64 s.opn, .int .i64 s.probes] ∧ K.At wr g 23 (cells (good s t k)) ∧ K.H (Below w.heap.size w wr)) (fun i _ _ => (s.probes - intOf i).toNat)
      case atStart => exact ⟨0, by omega, rfl, rfl, hP4, by unfold good; rw [if_pos (by omega)]; exact hP5, Hb9⟩
      case round =>
        clear hP4 hP5 Hb9
        obtain ⟨k, hk, rfl, rfl, hA2, hA3, Hb3⟩ := hrel
        obtain ⟨hc2, hf2, hl2⟩ := K.At.facts hA2
        obtain ⟨hc3, hf3, hl3⟩ := K.At.facts hA3
        by_cases hlt : (k : Int) < s.probes
        · have hm : ((good s t k).mode != 2) = false := by unfold good; rw [if_pos hlt]; rfl
          obtain ⟨g1, g2, g3⟩ := good_begin (k := k) Hs.out ht0 ht hlt
          have HB : ∀ W, Calls Try.prog 11 #[(good s t k).a, s.a, .int .i64 (t + s.opn)] W fun e w' => e = .returned (.tuple #[.agg #[.int .i64 2, .int .i64 0, .int .i64 (t + s.opn), .int .i64 1, .int .i64 k], .bool true, .int .i64 0]) ∧ Below W.heap.size W w' := fun W => by
            have h2 := Begin_yes (good s t k) s (t + s.opn) W g1
            rw [g2, g3] at h2; exact h2
          have HE : ∀ W, Calls Try.prog 12 #[.agg #[.int .i64 2, .int .i64 0, .int .i64 (t + s.opn), .int .i64 1, .int .i64 k], s.a, .int .i64 (t + s.opn), .bool true, .bool true] W fun e w' => e = .returned (.tuple #[(good s t (k + 1)).a, .int .i64 0]) ∧ Below W.heap.size W w' := fun W => by
            have h2 := End_ok ⟨2, 0, t + s.opn, 1, k⟩ s (t + s.opn) true true W (half_chk Hs.out ht0 ht (by omega) (by omega))
            rw [good_step hlt] at h2; exact h2
          have GB := K.H.mk HB
          have GE := K.H.mk HE
          clear HB HE g1 g2 g3
          go_wp2_with (first | (go_at_call 11; (with_reducible refine (GB.out _).mono ?_); rintro e W4 ⟨rfl, hb4⟩; obtain ⟨hB4, hC4, hF4, hZ4⟩ := K.bel_facts hb4; clear hb4; have hZZ := hZ4; (try simp at hZZ); have hz4_0 : w.heap.size < W4.heap.size := (by omega); (try have hz4_1_0 : W1.heap.size < W4.heap.size := (by omega)); (try have hz4_1_1 : W1.heap.size + 1 < W4.heap.size := (by omega)); (try have hz4_2_0 : W2.heap.size < W4.heap.size := (by omega)); (try have hz4_2_1 : W2.heap.size + 1 < W4.heap.size := (by omega)); (try have hz4_3_0 : W3.heap.size < W4.heap.size := (by omega)); (try have hz4_3_1 : W3.heap.size + 1 < W4.heap.size := (by omega)); (try have hz4_g : g < W4.heap.size := (by omega)); clear hZZ) | (go_at_call 12; (with_reducible refine (GE.out _).mono ?_); rintro e W5 ⟨rfl, hb5⟩; obtain ⟨hB5, hC5, hF5, hZ5⟩ := K.bel_facts hb5; clear hb5; have hZZ := hZ5; (try simp at hZZ); have hz5_0 : w.heap.size < W5.heap.size := (by omega); (try have hz5_1_0 : W1.heap.size < W5.heap.size := (by omega)); (try have hz5_1_1 : W1.heap.size + 1 < W5.heap.size := (by omega)); (try have hz5_2_0 : W2.heap.size < W5.heap.size := (by omega)); (try have hz5_2_1 : W2.heap.size + 1 < W5.heap.size := (by omega)); (try have hz5_3_0 : W3.heap.size < W5.heap.size := (by omega)); (try have hz5_3_1 : W3.heap.size + 1 < W5.heap.size := (by omega)); (try have hz5_4_0 : W4.heap.size < W5.heap.size := (by omega)); (try have hz5_4_1 : W4.heap.size + 1 < W5.heap.size := (by omega)); (try have hz5_g : g < W5.heap.size := (by omega)); clear hZZ) | (go_at_call 10; (with_reducible refine (num_c _ _).mono ?_); rintro e w' ⟨rfl, hw'⟩; have hw'2 := Eq.symm hw'; clear hw'; subst hw'2))
          go_roundw
          case rel => exact ⟨k + 1, by omega, by go_num, rfl, (by refine K.At.cast (by repeat (first | (with_reducible exact hA2) | (with_reducible refine K.At.new' _ _ _ _ (by first | rfl | (simp; done) | omega)) | (with_reducible apply K.At.over hB5) | (with_reducible apply K.At.over hB4) | (with_reducible apply K.At.set) | (with_reducible apply K.At.alloc) | (with_reducible apply K.At.drewN) | (with_reducible apply K.At.drew) | (with_reducible apply K.At.far) | omega | (simp; omega))) ?_; rfl), (by refine K.At.cast (by repeat (first | (with_reducible exact hA3) | (with_reducible refine K.At.new' _ _ _ _ (by first | rfl | (simp; done) | omega)) | (with_reducible apply K.At.over hB5) | (with_reducible apply K.At.over hB4) | (with_reducible apply K.At.set) | (with_reducible apply K.At.alloc) | (with_reducible apply K.At.drewN) | (with_reducible apply K.At.drew) | (with_reducible apply K.At.far) | omega | (simp; omega))) ?_; rfl), ⟨(by repeat (first | (with_reducible exact Below.refl _ _) | (with_reducible exact Hb3.out) | (with_reducible refine K.b_bel ?_ (by assumption)) | (with_reducible refine K.b_alloc ?_ _) | (with_reducible refine K.b_drewN ?_ _) | (with_reducible refine K.b_drew ?_) | (with_reducible refine K.b_set ?_ (by first | omega | (simp; omega)) _) | (with_reducible refine K.b_only ?_ (by assumption) (by first | omega | (simp; omega)))))⟩⟩
          case measure => simp [intOf]; omega
        · have hb : good s t k = ⟨0, 0, t + s.opn, 0, 0⟩ := by unfold good; rw [if_neg hlt]
          rw [hb] at hA3 hc3
          have hge2 : s.probes ≤ (k : Int) := by omega
          clear hb hlt
          go_wp2_with (go_at_call 10; (with_reducible refine (num_c _ _).mono ?_); rintro e w' ⟨rfl, hw'⟩; have hw'2 := Eq.symm hw'; clear hw'; subst hw'2)
          go_ret
          exact ⟨rfl, Hb3.out⟩
theorem Opens_c (s : S) (t e : Int) (w : World) : Calls Try.prog 4 #[s.a, .int .i64 t, .int .i64 e] w fun e w' =>
    e = .returned (.bool true) ∧ Below w.heap.size w w' := by
  by_cases h : chk zero s t = 0 ∧ t ≤ 268435456 ∧ s.fails ≤ 100
  · exact Opens_yes s t e w h.1 h.2.1 h.2.2
  · refine Opens_no s t e w ?_
    by_cases h1 : chk zero s t = 0
    · right; omega
    · exact .inl h1
end Go.Proofs.Ytimdfnhagjlkoab.Brk
