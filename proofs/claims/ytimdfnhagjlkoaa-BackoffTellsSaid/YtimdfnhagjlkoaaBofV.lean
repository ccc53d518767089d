/- Backoff: Row of the reference; BackoffTells: the walk. -/
import Derived.Test.YtimdfnhagjlkoaaBofU
set_option linter.unusedVariables false
namespace Go.Proofs.Ytimdfnhagjlkoaa.Bof
open Go.RowKit Go.Proofs.Ytimdfnhagjlkoaa
attribute [local go_sem] K.max2_int K.min2_int K.max_two K.min_two K.max_three K.min_three
set_option linter.unusedSimpArgs false
theorem rl_succ (s : S) (k : Nat) : (rl s k).map (Value.int .i64) ++ [.int .i64 (mst s k)] = (rl s (k + 1)).map (Value.int .i64) := by simp [rl, List.range_succ]
set_option maxRecDepth 100000 in
set_option maxHeartbeats 4000000 in
theorem rRow_ok (s : S) (h : Ok s) (N : Nat) (hN : N ≤ 64) (w : World) : Calls Try.prog 25 #[s.a, .int .i64 N] w (RowPost w ((List.range N).map (mst s)) 0) := by
  have GC := K.H.mk (rChk_ok h)
  have Hs := K.H.mk h
  have hd1 : decide ((N : Int) < 0) = false := by simp
  have hd2 : decide ((64 : Int) < (N : Int)) = false := by simp; omega
  clear h
  go_enter Try.func25, Try.ntmps25
  go_wp2_with (first | (go_at_call 27; (with_reducible refine (GC.out _).mono ?_); rintro e W1 ⟨rfl, hb1⟩; obtain ⟨hB1, hC1, hF1, hZ1⟩ := K.bel_facts hb1; clear hb1; have hZZ := hZ1; (try simp at hZZ); have hz1_0 : w.heap.size < W1.heap.size := (by omega); clear hZZ))
  refine K.wp_gen (fun W => K.At W w.heap.size 23 s.c ∧ Below w.heap.size w W) ⟨(by refine K.At.cast (by repeat (first | (with_reducible refine K.At.new' _ _ _ _ (by first | rfl | (simp; done) | omega)) | (with_reducible apply K.At.over hB1) | (with_reducible apply K.At.set) | (with_reducible apply K.At.alloc) | (with_reducible apply K.At.drewN) | (with_reducible apply K.At.drew) | (with_reducible apply K.At.far) | omega | (simp <;> omega))) ?_; rfl), (by repeat (first | (with_reducible exact Below.refl _ _) | (with_reducible refine K.b_bel ?_ (by assumption)) | (with_reducible refine K.b_alloc ?_ _) | (with_reducible refine K.b_drewN ?_ _) | (with_reducible refine K.b_drew ?_) | (with_reducible refine K.b_set ?_ (by first | omega | (simp <;> omega)) _) | (with_reducible refine K.b_only ?_ (by assumption) (by first | omega | (simp <;> omega)))))⟩ ?_
  rintro W2 ⟨hA, hb2⟩
  have Hb2 := K.H.mk hb2
  clear hb2 hd1 hd2
  ((try clear hC1); (try clear hF1); (try clear hZ1); (try clear hc1); (try clear hf1); (try clear hl1); (try clear hB1); (try clear hO1); (try clear hA1); (try clear hz1_0); (try clear hz1_1); (try clear hz1_2); (try clear hz1_3); (try clear GC))
  go_loopw [6, 7] (fun v i wr => ∃ k : Nat, k ≤ N ∧ i = .int .i64 (k + 1) ∧ wr.ownsRow w.heap.size 3 1 v k ((rl s k).map (Value.int .i64)) ∧ K.At wr w.heap.size 23 s.c ∧ K.H (Below w.heap.size w wr)) (fun _ i _ => N + 1 - (intOf i).toNat)
  case atStart => exact ⟨0, by omega, rfl, World.ownsRow_nil _ _ _ _, hA, Hb2⟩
  case round =>
    clear hA Hb2
    obtain ⟨k, hk, rfl, hown, hA, Hb⟩ := hrel
    obtain ⟨hc5, hf5, hl5⟩ := K.At.facts hA
    by_cases hlt : k < N
    · have GM := K.H.mk (fun W => by have h4 := rMost_ok s (k + 1) W Hs.out (by omega); rw [show mstI s (k + 1) = mst s k by unfold mstI; rw [show ((k : Int) + 1 - 1).toNat = k by omega]] at h4; exact h4)
      have hq := Sl.own_ne hown hA (by decide)
      have E := K.H.mk (rl_succ s k)
      go_wp2_with (first | (go_at_call 21; (with_reducible refine (GM.out _).mono ?_); rintro e W6 ⟨rfl, hb6⟩; obtain ⟨hB6, hC6, hF6, hZ6⟩ := K.bel_facts hb6; clear hb6) | (at_builtin; refine Sl.app1 (news := [.int .i64 (mst s k)]) rfl _ _ 30 3 (.int .i64 0) rfl Try.underlying30 (by kernel_rfl : (Try.prog.info? 3).map (fun i => (i.zero, i.size, i.bytes)) = some (some (.int .i64 0), 1, 8)) rfl (by decide) (by decide) rfl (((Sl.own_over hown hB6)).alloc _) rfl rfl (Sl.new_cells _ _ _ _ (by first | rfl | simp)) (by simp [Value.oneCell']) (by omega) (by simp <;> omega) ?_; intro v7 W7 hown7 hgr7))
      rw [E.out] at hown7
      go_roundw
      case rel => exact ⟨k + 1, by omega, by go_num, hown7, Sl.at_grown ((K.At.over hB6 hA).alloc _) hgr7 hq, ⟨Sl.below_grown (by repeat (first | (with_reducible exact Below.refl _ _) | (with_reducible exact Hb.out) | (with_reducible refine K.b_bel ?_ (by assumption)) | (with_reducible refine K.b_alloc ?_ _) | (with_reducible refine K.b_drewN ?_ _) | (with_reducible refine K.b_drew ?_) | (with_reducible refine K.b_set ?_ (by first | omega | (simp <;> omega)) _) | (with_reducible refine K.b_only ?_ (by assumption) (by first | omega | (simp <;> omega))))) hgr7 (Sl.own_base hown)⟩⟩
      case measure => simp [intOf]; omega
    · obtain rfl : k = N := by omega
      have hl : ((List.range k).map (mst s)).length = k := by simp
      have Hl := K.H.mk hl
      clear hl
      go_wp2
      go_ret2
      exact ⟨_, rfl, by rw [Hl.out]; exact hown, Hb.out⟩
theorem rRow_c (s : S) (n : Int) (w : World) : Calls Try.prog 25 #[s.a, .int .i64 n] w (RowPost w (oRow s n) (eRow s n)) := by
  by_cases h : Ok s
  · by_cases h2 : 0 ≤ n ∧ n ≤ 64
    · rw [(row_0 h h2).1, (row_0 h h2).2]
      obtain ⟨N, rfl⟩ := Int.eq_ofNat_of_zero_le h2.1
      rw [Int.toNat_natCast]
      exact rRow_ok s h N (by omega) w
    · have GC := K.H.mk (rChk_ok h)
      have E := K.H.mk (row_3 (n := n) h (by omega))
      rw [E.out.1, E.out.2]
      clear h
      go_enter Try.func25, Try.ntmps25
      go_wp2_with (first | (go_at_call 27; (with_reducible refine (GC.out _).mono ?_); rintro e W1 ⟨rfl, hb1⟩; obtain ⟨hB1, hC1, hF1, hZ1⟩ := K.bel_facts hb1; clear hb1; have hZZ := hZ1; (try simp at hZZ); have hz1_0 : w.heap.size < W1.heap.size := (by omega); clear hZZ))
      all_goals first | (exfalso; omega) | (go_ret2; exact ⟨_, rfl, World.ownsRow_nil _ _ _ _, (by repeat (first | (with_reducible exact Below.refl _ _) | (with_reducible refine K.b_bel ?_ (by assumption)) | (with_reducible refine K.b_alloc ?_ _) | (with_reducible refine K.b_drewN ?_ _) | (with_reducible refine K.b_drew ?_) | (with_reducible refine K.b_set ?_ (by first | omega | (simp <;> omega)) _) | (with_reducible refine K.b_only ?_ (by assumption) (by first | omega | (simp <;> omega)))))⟩)
  · have GC := K.H.mk (rChk_no h)
    have E := K.H.mk (row_4 (n := n) h)
    rw [E.out.1, E.out.2]
    clear h
    go_enter Try.func25, Try.ntmps25
    go_wp2_with (first | (go_at_call 27; (with_reducible refine (GC.out _).mono ?_); rintro e W1 ⟨rfl, hb1⟩; obtain ⟨hB1, hC1, hF1, hZ1⟩ := K.bel_facts hb1; clear hb1; have hZZ := hZ1; (try simp at hZZ); have hz1_0 : w.heap.size < W1.heap.size := (by omega); clear hZZ))
    go_ret2
    exact ⟨_, rfl, World.ownsRow_nil _ _ _ _, (by repeat (first | (with_reducible exact Below.refl _ _) | (with_reducible refine K.b_bel ?_ (by assumption)) | (with_reducible refine K.b_alloc ?_ _) | (with_reducible refine K.b_drewN ?_ _) | (with_reducible refine K.b_drew ?_) | (with_reducible refine K.b_set ?_ (by first | omega | (simp <;> omega)) _) | (with_reducible refine K.b_only ?_ (by assumption) (by first | omega | (simp <;> omega)))))⟩
theorem own_rds {w : World} {base n : Nat} {A : Option Addr} {c : Nat} {cs : List Value} {e : TypeId} (h : w.ownsRow base e 1 (.slice A n c) n cs) : Sl.Rds w 1 A n cs := by
  obtain ⟨A2, c2, he, hr⟩ := Sl.Rds.of_own h
  injection he with h1 h2 h3
  rw [h1]; exact hr
set_option maxRecDepth 100000 in
set_option maxHeartbeats 8000000 in
theorem Tells_c (s : S) (n d : Int) (ds : List Int) (d0 : 0 ≤ d) (d1 : d < 18446744073709551616) (hu : U64 ds) (A : Option Addr) (m c : Nat) (w : World) (hr : Sl.Rds w 1 A m (ds.flatMap fun n => [.int .u64 n])) :
    Calls Try.prog 7 #[s.a, .int .i64 n, .int .u64 d, .slice A m c] w fun e w' => e = .returned (.bool true) ∧ Below w.heap.size w w' := by
  have GT := K.H.mk (fun (W : World) (hb : Below w.heap.size w W) => Total_c s ds hu A _ c W (hr.below hb))
  have GRT := K.H.mk (fun (W : World) (hb : Below w.heap.size w W) => rTotal_c s ds hu A _ c W (hr.below hb))
  have GM := K.H.mk (fun W => Most_c s n W)
  have GRM := K.H.mk (fun W => rMost_c s n W)
  have GD := K.H.mk (fun W => Delay_c s n d W d0 d1)
  have GRD := K.H.mk (fun W => rDelay_c s n d W d0 d1)
  have GR := K.H.mk (fun W => Row_c s n W)
  have GRR := K.H.mk (fun W => rRow_c s n W)
  have GC := K.H.mk (fun W => chk_c s W)
  have GRC := K.H.mk (fun W => rchk_c s W)
  have b1 : (oMost s n == oMost s n) = true := by simp
  have b2 : (eMost s n == eMost s n) = true := by simp
  have b3 : (oDelay s n d == oDelay s n d) = true := by simp
  have b4 : (oTotal s ds == oTotal s ds) = true := by simp
  have b5 : (eTotal s ds == eTotal s ds) = true := by simp
  have b6 : (eRow s n == eRow s n) = true := by simp
  have b7 : (chk s == chk s) = true := by simp
  generalize oMost s n = x1 at *
  generalize eMost s n = x2 at *
  generalize oDelay s n d = x3 at *
  generalize oTotal s ds = x4 at *
  generalize eTotal s ds = x5 at *
  generalize eRow s n = x6 at *
  generalize oRow s n = row at *
  generalize chk s = x7 at *
  clear hr hu
  go_enter Try.func7, Try.ntmps7
  go_wp2_with (first
    | (go_at_call 16; (with_reducible refine (GM.out _).mono ?_); rintro e W1 ⟨rfl, hb1⟩; obtain ⟨hB1, hC1, hF1, hZ1⟩ := K.bel_facts hb1; clear hb1; have hZZ := hZ1; (try simp at hZZ); have hz1_0 : w.heap.size < W1.heap.size := (by omega); clear hZZ)
    | (go_at_call 21; (with_reducible refine (GRM.out _).mono ?_); rintro e W2 ⟨rfl, hb2⟩; obtain ⟨hB2, hC2, hF2, hZ2⟩ := K.bel_facts hb2; clear hb2; have hZZ := hZ2; (try simp at hZZ); have hz2_0 : w.heap.size < W2.heap.size := (by omega); (try have hz2_1_0 : W1.heap.size < W2.heap.size := (by omega)); (try have hz2_1_1 : W1.heap.size + 1 < W2.heap.size := (by omega)); clear hZZ)
    | (go_at_call 20; (with_reducible refine (GD.out _).mono ?_); rintro e W3 ⟨rfl, hb3⟩; obtain ⟨hB3, hC3, hF3, hZ3⟩ := K.bel_facts hb3; clear hb3; have hZZ := hZ3; (try simp at hZZ); have hz3_0 : w.heap.size < W3.heap.size := (by omega); (try have hz3_1_0 : W1.heap.size < W3.heap.size := (by omega)); (try have hz3_1_1 : W1.heap.size + 1 < W3.heap.size := (by omega)); (try have hz3_2_0 : W2.heap.size < W3.heap.size := (by omega)); (try have hz3_2_1 : W2.heap.size + 1 < W3.heap.size := (by omega)); clear hZZ)
    | (go_at_call 22; (with_reducible refine (GRD.out _).mono ?_); rintro e W4 ⟨rfl, hb4⟩; obtain ⟨hB4, hC4, hF4, hZ4⟩ := K.bel_facts hb4; clear hb4; have hZZ := hZ4; (try simp at hZZ); have hz4_0 : w.heap.size < W4.heap.size := (by omega); (try have hz4_1_0 : W1.heap.size < W4.heap.size := (by omega)); (try have hz4_1_1 : W1.heap.size + 1 < W4.heap.size := (by omega)); (try have hz4_2_0 : W2.heap.size < W4.heap.size := (by omega)); (try have hz4_2_1 : W2.heap.size + 1 < W4.heap.size := (by omega)); (try have hz4_3_0 : W3.heap.size < W4.heap.size := (by omega)); (try have hz4_3_1 : W3.heap.size + 1 < W4.heap.size := (by omega)); clear hZZ)
    | (go_at_call 23; (with_reducible refine (GT.out _ (by repeat (first | (with_reducible exact Below.refl _ _) | (with_reducible refine K.b_bel ?_ (by assumption)) | (with_reducible refine K.b_alloc ?_ _) | (with_reducible refine K.b_drewN ?_ _) | (with_reducible refine K.b_drew ?_) | (with_reducible refine K.b_set ?_ (by first | omega | (simp <;> omega)) _) | (with_reducible refine K.b_only ?_ (by assumption) (by first | omega | (simp <;> omega)))))).mono ?_); rintro e W5 ⟨rfl, hb5⟩; obtain ⟨hB5, hC5, hF5, hZ5⟩ := K.bel_facts hb5; clear hb5; have hZZ := hZ5; (try simp at hZZ); have hz5_0 : w.heap.size < W5.heap.size := (by omega); (try have hz5_1_0 : W1.heap.size < W5.heap.size := (by omega)); (try have hz5_1_1 : W1.heap.size + 1 < W5.heap.size := (by omega)); (try have hz5_2_0 : W2.heap.size < W5.heap.size := (by omega)); (try have hz5_2_1 : W2.heap.size + 1 < W5.heap.size := (by omega)); (try have hz5_3_0 : W3.heap.size < W5.heap.size := (by omega)); (try have hz5_3_1 : W3.heap.size + 1 < W5.heap.size := (by omega)); (try have hz5_4_0 : W4.heap.size < W5.heap.size := (by omega)); (try have hz5_4_1 : W4.heap.size + 1 < W5.heap.size := (by omega)); clear hZZ)
    | (go_at_call 24; (with_reducible refine (GRT.out _ (by repeat (first | (with_reducible exact Below.refl _ _) | (with_reducible refine K.b_bel ?_ (by assumption)) | (with_reducible refine K.b_alloc ?_ _) | (with_reducible refine K.b_drewN ?_ _) | (with_reducible refine K.b_drew ?_) | (with_reducible refine K.b_set ?_ (by first | omega | (simp <;> omega)) _) | (with_reducible refine K.b_only ?_ (by assumption) (by first | omega | (simp <;> omega)))))).mono ?_); rintro e W6 ⟨rfl, hb6⟩; obtain ⟨hB6, hC6, hF6, hZ6⟩ := K.bel_facts hb6; clear hb6; have hZZ := hZ6; (try simp at hZZ); have hz6_0 : w.heap.size < W6.heap.size := (by omega); (try have hz6_1_0 : W1.heap.size < W6.heap.size := (by omega)); (try have hz6_1_1 : W1.heap.size + 1 < W6.heap.size := (by omega)); (try have hz6_2_0 : W2.heap.size < W6.heap.size := (by omega)); (try have hz6_2_1 : W2.heap.size + 1 < W6.heap.size := (by omega)); (try have hz6_3_0 : W3.heap.size < W6.heap.size := (by omega)); (try have hz6_3_1 : W3.heap.size + 1 < W6.heap.size := (by omega)); (try have hz6_4_0 : W4.heap.size < W6.heap.size := (by omega)); (try have hz6_4_1 : W4.heap.size + 1 < W6.heap.size := (by omega)); (try have hz6_5_0 : W5.heap.size < W6.heap.size := (by omega)); (try have hz6_5_1 : W5.heap.size + 1 < W6.heap.size := (by omega)); clear hZZ)
    | (go_at_call 18; (with_reducible refine (GR.out _).mono ?_); rintro e W7 ⟨v7, rfl, hown7, hb7⟩; obtain ⟨A7, c7, rfl, hca7, hcm7, hR7⟩ := Sl.Rds.of_own2 hown7; simp only [maxLen] at hcm7; clear hown7; obtain ⟨hB7, hC7, hF7, hZ7⟩ := K.bel_facts hb7; clear hb7; have hZZ := hZ7; (try simp at hZZ); have hz7_0 : w.heap.size < W7.heap.size := (by omega); (try have hz7_1_0 : W1.heap.size < W7.heap.size := (by omega)); (try have hz7_1_1 : W1.heap.size + 1 < W7.heap.size := (by omega)); (try have hz7_2_0 : W2.heap.size < W7.heap.size := (by omega)); (try have hz7_2_1 : W2.heap.size + 1 < W7.heap.size := (by omega)); (try have hz7_3_0 : W3.heap.size < W7.heap.size := (by omega)); (try have hz7_3_1 : W3.heap.size + 1 < W7.heap.size := (by omega)); (try have hz7_4_0 : W4.heap.size < W7.heap.size := (by omega)); (try have hz7_4_1 : W4.heap.size + 1 < W7.heap.size := (by omega)); (try have hz7_5_0 : W5.heap.size < W7.heap.size := (by omega)); (try have hz7_5_1 : W5.heap.size + 1 < W7.heap.size := (by omega)); (try have hz7_6_0 : W6.heap.size < W7.heap.size := (by omega)); (try have hz7_6_1 : W6.heap.size + 1 < W7.heap.size := (by omega)); clear hZZ)
    | (go_at_call 25; (with_reducible refine (GRR.out _).mono ?_); rintro e W8 ⟨v8, rfl, hown8, hb8⟩; obtain ⟨A8, c8, rfl, hca8, hcm8, hR8⟩ := Sl.Rds.of_own2 hown8; simp only [maxLen] at hcm8; clear hown8; obtain ⟨hB8, hC8, hF8, hZ8⟩ := K.bel_facts hb8; clear hb8; have hZZ := hZ8; (try simp at hZZ); have hz8_0 : w.heap.size < W8.heap.size := (by omega); (try have hz8_1_0 : W1.heap.size < W8.heap.size := (by omega)); (try have hz8_1_1 : W1.heap.size + 1 < W8.heap.size := (by omega)); (try have hz8_2_0 : W2.heap.size < W8.heap.size := (by omega)); (try have hz8_2_1 : W2.heap.size + 1 < W8.heap.size := (by omega)); (try have hz8_3_0 : W3.heap.size < W8.heap.size := (by omega)); (try have hz8_3_1 : W3.heap.size + 1 < W8.heap.size := (by omega)); (try have hz8_4_0 : W4.heap.size < W8.heap.size := (by omega)); (try have hz8_4_1 : W4.heap.size + 1 < W8.heap.size := (by omega)); (try have hz8_5_0 : W5.heap.size < W8.heap.size := (by omega)); (try have hz8_5_1 : W5.heap.size + 1 < W8.heap.size := (by omega)); (try have hz8_6_0 : W6.heap.size < W8.heap.size := (by omega)); (try have hz8_6_1 : W6.heap.size + 1 < W8.heap.size := (by omega)); (try have hz8_7_0 : W7.heap.size < W8.heap.size := (by omega)); (try have hz8_7_1 : W7.heap.size + 1 < W8.heap.size := (by omega)); clear hZZ))
  refine K.wp_gen (fun W => K.At W w.heap.size 23 s.c ∧ Sl.Rds W 1 A7 row.length (row.flatMap fun n => [.int .i64 n]) ∧ Sl.Rds W 1 A8 row.length (row.flatMap fun n => [.int .i64 n]) ∧ Below w.heap.size w W) ⟨(by refine K.At.cast (by repeat (first | (with_reducible refine K.At.new' _ _ _ _ (by first | rfl | (simp; done) | omega)) | (with_reducible apply K.At.over hB8) | (with_reducible apply K.At.over hB7) | (with_reducible apply K.At.over hB6) | (with_reducible apply K.At.over hB5) | (with_reducible apply K.At.over hB4) | (with_reducible apply K.At.over hB3) | (with_reducible apply K.At.over hB2) | (with_reducible apply K.At.over hB1) | (with_reducible apply K.At.set) | (with_reducible apply K.At.alloc) | (with_reducible apply K.At.drewN) | (with_reducible apply K.At.drew) | (with_reducible apply K.At.far) | omega | (simp <;> omega))) ?_; rfl), by rw [← Sl.map_flat]; exact hR7.bel hB8, by rw [← Sl.map_flat]; exact hR8, (by repeat (first | (with_reducible exact Below.refl _ _) | (with_reducible refine K.b_bel ?_ (by assumption)) | (with_reducible refine K.b_alloc ?_ _) | (with_reducible refine K.b_drewN ?_ _) | (with_reducible refine K.b_drew ?_) | (with_reducible refine K.b_set ?_ (by first | omega | (simp <;> omega)) _) | (with_reducible refine K.b_only ?_ (by assumption) (by first | omega | (simp <;> omega)))))⟩ ?_
  rintro W9 ⟨hA, hR1, hR2, hb9⟩
  have HB := K.H.mk hb9
  have GS := K.H.mk (fun (W : World) (hW : Below W9.heap.size W9 W) => same_t row _ _ _ _ c7 c8 W (hR1.below hW) (hR2.below hW))
  obtain ⟨hc9, hf9, hl9⟩ := K.At.facts hA
  clear hR1 hR2 hb9
  ((try clear hC8); (try clear hF8); (try clear hZ8); (try clear hc8); (try clear hf8); (try clear hl8); (try clear hB8); (try clear hO8); (try clear hA8); (try clear hz8_0); (try clear hz8_1); (try clear hz8_2); (try clear hz8_3); (try clear hz8_1_0); (try clear hz8_1_1); (try clear hz8_2_0); (try clear hz8_2_1); (try clear hz8_3_0); (try clear hz8_3_1); (try clear hz8_4_0); (try clear hz8_4_1); (try clear hz8_5_0); (try clear hz8_5_1); (try clear hz8_6_0); (try clear hz8_6_1); (try clear hz8_7_0); (try clear hz8_7_1); (try clear hC7); (try clear hF7); (try clear hZ7); (try clear hc7); (try clear hf7); (try clear hl7); (try clear hB7); (try clear hO7); (try clear hA7); (try clear hz7_0); (try clear hz7_1); (try clear hz7_2); (try clear hz7_3); (try clear hz7_1_0); (try clear hz7_1_1); (try clear hz7_2_0); (try clear hz7_2_1); (try clear hz7_3_0); (try clear hz7_3_1); (try clear hz7_4_0); (try clear hz7_4_1); (try clear hz7_5_0); (try clear hz7_5_1); (try clear hz7_6_0); (try clear hz7_6_1); (try clear hC6); (try clear hF6); (try clear hZ6); (try clear hc6); (try clear hf6); (try clear hl6); (try clear hB6); (try clear hO6); (try clear hA6); (try clear hz6_0); (try clear hz6_1); (try clear hz6_2); (try clear hz6_3); (try clear hz6_1_0); (try clear hz6_1_1); (try clear hz6_2_0); (try clear hz6_2_1); (try clear hz6_3_0); (try clear hz6_3_1); (try clear hz6_4_0); (try clear hz6_4_1); (try clear hz6_5_0); (try clear hz6_5_1); (try clear hC5); (try clear hF5); (try clear hZ5); (try clear hc5); (try clear hf5); (try clear hl5); (try clear hB5); (try clear hO5); (try clear hA5); (try clear hz5_0); (try clear hz5_1); (try clear hz5_2); (try clear hz5_3); (try clear hz5_1_0); (try clear hz5_1_1); (try clear hz5_2_0); (try clear hz5_2_1); (try clear hz5_3_0); (try clear hz5_3_1); (try clear hz5_4_0); (try clear hz5_4_1); (try clear hC4); (try clear hF4); (try clear hZ4); (try clear hc4); (try clear hf4); (try clear hl4); (try clear hB4); (try clear hO4); (try clear hA4); (try clear hz4_0); (try clear hz4_1); (try clear hz4_2); (try clear hz4_3); (try clear hz4_1_0); (try clear hz4_1_1); (try clear hz4_2_0); (try clear hz4_2_1); (try clear hz4_3_0); (try clear hz4_3_1); (try clear hC3); (try clear hF3); (try clear hZ3); (try clear hc3); (try clear hf3); (try clear hl3); (try clear hB3); (try clear hO3); (try clear hA3); (try clear hz3_0); (try clear hz3_1); (try clear hz3_2); (try clear hz3_3); (try clear hz3_1_0); (try clear hz3_1_1); (try clear hz3_2_0); (try clear hz3_2_1); (try clear hC2); (try clear hF2); (try clear hZ2); (try clear hc2); (try clear hf2); (try clear hl2); (try clear hB2); (try clear hO2); (try clear hA2); (try clear hz2_0); (try clear hz2_1); (try clear hz2_2); (try clear hz2_3); (try clear hz2_1_0); (try clear hz2_1_1); (try clear hC1); (try clear hF1); (try clear hZ1); (try clear hc1); (try clear hf1); (try clear hl1); (try clear hB1); (try clear hO1); (try clear hA1); (try clear hz1_0); (try clear hz1_1); (try clear hz1_2); (try clear hz1_3))
  refine K.wp_region_ext_lit (by kernel_rfl) (by kernel_rfl) ?_
  repeat (any_goals (first | go_big_quiet_skip | quiet_step ((first | (go_at_call 17; first | (with_reducible exact K.q_same (num_c _ _))) | (go_at_call 19; first | (with_reducible exact K.q_below (GS.out _ (World.ext_below _ _)))) | (go_at_call 26; first | (with_reducible exact K.q_below (GC.out _))) | (go_at_call 27; first | (with_reducible exact K.q_below (GRC.out _))) | (go_at_call 15; first | (with_reducible exact K.q_below (alive_c _))))) | (refine wpQuiet_step (fun K hK => ?_); go_simp; split <;> (refine hK _ ?_; clear hK K))))
  all_goals (refine wpQuiet_nil ?_; intro W10 hW10; obtain ⟨hB10, hC10, hF10, hZ10⟩ := K.ext_facts hW10; clear hW10)
  go_wp2
  go_ret
  exact ⟨rfl, (by repeat (first | (with_reducible exact Below.refl _ _) | (with_reducible exact HB.out) | (with_reducible refine K.b_bel ?_ (by assumption)) | (with_reducible refine K.b_alloc ?_ _) | (with_reducible refine K.b_drewN ?_ _) | (with_reducible refine K.b_drew ?_) | (with_reducible refine K.b_set ?_ (by first | omega | (simp <;> omega)) _) | (with_reducible refine K.b_only ?_ (by assumption) (by first | omega | (simp <;> omega)))))⟩
end Go.Proofs.Ytimdfnhagjlkoaa.Bof
