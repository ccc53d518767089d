/- Backoff: the reference. -/
import Derived.Test.YtfepjpjkamlneaaBofD
set_option linter.unusedVariables false
namespace Go.Proofs.Ytfepjpjkamlneaa.Bof
open Go.RowKit Go.Proofs.Ytfepjpjkamlneaa
attribute [local go_sem] K.max2_int K.min2_int K.max_two K.min_two K.max_three K.min_three
set_option linter.unusedSimpArgs false
theorem rChk_ok {s : S} (h : Ok s) (W : World) : Calls Try.prog 47 #[s.a] W fun e w' => e = .returned (.int .i64 0) ∧ Below W.heap.size W w' := by
  have h2 := rchk_c s W
  rwa [chk_0 h] at h2
theorem rChk_no {s : S} (h : ¬ Ok s) (W : World) : Calls Try.prog 47 #[s.a] W fun e w' => e = .returned (.int .i64 4) ∧ Below W.heap.size W w' := by
  have h2 := rchk_c s W
  rwa [chk_4 h] at h2
set_option maxRecDepth 100000 in
set_option maxHeartbeats 2000000 in
theorem rMost_c (s : S) (n : Int) (w : World) : Calls Try.prog 23 #[s.a, .int .i64 n] w fun e w' => e = .returned (.tuple #[.int .i64 (oMost s n), .int .i64 (eMost s n)]) ∧ Below w.heap.size w w' := by
  by_cases h : Ok s
  · have GC := K.H.mk (rChk_ok h)
    have Hs := K.H.mk h
    by_cases h2 : 1 ≤ n ∧ n ≤ 64
    · rw [(most_0 h h2).1, (most_0 h h2).2]
      have hd1 : decide (n < 1) = false := by simp; omega
      have hd2 : decide (64 < n) = false := by simp; omega
      clear h
      obtain ⟨n1, n2⟩ := h2
      go_enter Try.func23, Try.ntmps23
      go_wp2_with (go_at_call 47; (with_reducible refine (GC.out _).mono ?_); rintro e W1 ⟨rfl, hb1⟩; obtain ⟨hB1, hC1, hF1, hZ1⟩ := K.bel_facts hb1; clear hb1; have hZZ := hZ1; (try simp at hZZ); have hz1_0 : w.heap.size < W1.heap.size := (by omega); clear hZZ)
      refine K.wp_gen (fun W => K.At W w.heap.size 28 s.c ∧ Below w.heap.size w W) ⟨(by refine K.At.cast (by repeat (first | (with_reducible refine K.At.new' _ _ _ _ (by first | rfl | (simp; done) | omega)) | (with_reducible apply K.At.over hB1) | (with_reducible apply K.At.set) | (with_reducible apply K.At.alloc) | (with_reducible apply K.At.drewN) | (with_reducible apply K.At.drew) | (with_reducible apply K.At.far) | omega | (simp <;> omega))) ?_; rfl), (by repeat (first | (with_reducible exact Below.refl _ _) | (with_reducible refine K.b_bel ?_ (by assumption)) | (with_reducible refine K.b_alloc ?_ _) | (with_reducible refine K.b_drewN ?_ _) | (with_reducible refine K.b_drew ?_) | (with_reducible refine K.b_set ?_ (by first | omega | (simp <;> omega)) _) | (with_reducible refine K.b_only ?_ (by assumption) (by first | omega | (simp <;> omega)))))⟩ ?_
      rintro W2 ⟨hA, hb2⟩
      have Hb2 := K.H.mk hb2
      obtain ⟨hc5, hf5, hl5⟩ := K.At.facts hA
      clear hb2 hd1 hd2
      ((try clear hC1); (try clear hF1); (try clear hZ1); (try clear hc1); (try clear hf1); (try clear hl1); (try clear hB1); (try clear hO1); (try clear hA1); (try clear hz1_0); (try clear hz1_1); (try clear hz1_2); (try clear hz1_3); (try clear GC))
      go_loop [6, 7] (fun d i => ∃ k : Nat, (k : Int) + 1 ≤ n ∧ i = .int .i64 (k + 1) ∧ d = .int .i64 (mst s k)) (fun _ i => 64 - (intOf i).toNat)
      case atStart => exact ⟨0, by omega, rfl, rfl⟩
      case round =>
        obtain ⟨k, hk, rfl, rfl⟩ := hrel
        have hm := mst_in Hs.out k
        by_cases hlt : (k : Int) + 1 < n
        · have e : K.mn s.cap (mst s k + mst s k) = mst s (k + 1) := by rw [mn_sym, show mst s k + mst s k = 2 * mst s k by omega]; rfl
          have E := K.H.mk e
          clear e
          go_wp2
          go_round
          case rel => exact ⟨k + 1, by omega, by go_num, by rw [← E.out]⟩
          case measure => simp [intOf]; omega
        · have e : mst s k = mstI s n := by unfold mstI; congr 1; omega
          have E := K.H.mk e
          clear e
          go_wp2
          go_ret2
          exact ⟨by rw [← E.out]; rfl, (by repeat (first | (with_reducible exact Below.refl _ _) | (with_reducible exact Hb2.out) | (with_reducible refine K.b_bel ?_ (by assumption)) | (with_reducible refine K.b_alloc ?_ _) | (with_reducible refine K.b_drewN ?_ _) | (with_reducible refine K.b_drew ?_) | (with_reducible refine K.b_set ?_ (by first | omega | (simp <;> omega)) _) | (with_reducible refine K.b_only ?_ (by assumption) (by first | omega | (simp <;> omega)))))⟩
    · have E := K.H.mk (most_3 (n := n) h (by omega))
      rw [E.out.1, E.out.2]
      clear h
      go_enter Try.func23, Try.ntmps23
      go_wp2_with (go_at_call 47; (with_reducible refine (GC.out _).mono ?_); rintro e W1 ⟨rfl, hb1⟩; obtain ⟨hB1, hC1, hF1, hZ1⟩ := K.bel_facts hb1; clear hb1; have hZZ := hZ1; (try simp at hZZ); have hz1_0 : w.heap.size < W1.heap.size := (by omega); clear hZZ)
      all_goals first | (exfalso; omega) | (go_ret2; exact ⟨rfl, (by repeat (first | (with_reducible exact Below.refl _ _) | (with_reducible refine K.b_bel ?_ (by assumption)) | (with_reducible refine K.b_alloc ?_ _) | (with_reducible refine K.b_drewN ?_ _) | (with_reducible refine K.b_drew ?_) | (with_reducible refine K.b_set ?_ (by first | omega | (simp <;> omega)) _) | (with_reducible refine K.b_only ?_ (by assumption) (by first | omega | (simp <;> omega)))))⟩)
  · have GC := K.H.mk (rChk_no h)
    have E := K.H.mk (most_4 (n := n) h)
    rw [E.out.1, E.out.2]
    clear h
    go_enter Try.func23, Try.ntmps23
    go_wp2_with (go_at_call 47; (with_reducible refine (GC.out _).mono ?_); rintro e W1 ⟨rfl, hb1⟩; obtain ⟨hB1, hC1, hF1, hZ1⟩ := K.bel_facts hb1; clear hb1; have hZZ := hZ1; (try simp at hZZ); have hz1_0 : w.heap.size < W1.heap.size := (by omega); clear hZZ)
    go_ret2
    exact ⟨rfl, (by repeat (first | (with_reducible exact Below.refl _ _) | (with_reducible refine K.b_bel ?_ (by assumption)) | (with_reducible refine K.b_alloc ?_ _) | (with_reducible refine K.b_drewN ?_ _) | (with_reducible refine K.b_drew ?_) | (with_reducible refine K.b_set ?_ (by first | omega | (simp <;> omega)) _) | (with_reducible refine K.b_only ?_ (by assumption) (by first | omega | (simp <;> omega)))))⟩
theorem rMost_ok (s : S) (n : Int) (w : World) (h : Ok s) (hn : 1 ≤ n ∧ n ≤ 64) : Calls Try.prog 23 #[s.a, .int .i64 n] w fun e w' => e = .returned (.tuple #[.int .i64 (mstI s n), .int .i64 0]) ∧ Below w.heap.size w w' := by
  have := rMost_c s n w
  rwa [(most_0 h hn).1, (most_0 h hn).2] at this
set_option maxRecDepth 100000 in
set_option maxHeartbeats 2000000 in
theorem rDelay_c (s : S) (n d : Int) (w : World) (d0 : 0 ≤ d) (d1 : d < 18446744073709551616) : Calls Try.prog 50 #[s.a, .int .i64 n, .int .u64 d] w fun e w' => e = .returned (.tuple #[.int .i64 (oDelay s n d), .int .i64 (eMost s n)]) ∧ Below w.heap.size w w' := by
  by_cases h : eMost s n = 0
  · obtain ⟨ho, hn⟩ := eMost_ok h
    have hm := mstI_in ho n
    obtain ⟨⟨j0, j1⟩, j2, j3⟩ := jitn_in ho hm.1 hm.2
    have hr := shr_in d0 d1 j0
    have GM := K.H.mk (fun W => rMost_ok s n W ho hn)
    have GS := K.H.mk (fun W => rshare_c d (jitn s (mstI s n)) W d0 d1 j0 j1)
    rw [delay_0 ho hn, h]
    clear h ho
    unfold less
    rw [show K.mx (mstI s n - shr d (jitn s (mstI s n))) 1 = K.mx 1 (mstI s n - shr d (jitn s (mstI s n))) by unfold K.mx; split <;> split <;> omega]
    rw [show jitn s (mstI s n) = K.mn 1048576 (1 + mstI s n * s.jit / 1000) by unfold jitn; rw [mn_sym, Int.add_comm]] at *
    generalize mstI s n = m at *
    generalize hx : shr d (K.mn 1048576 (1 + m * s.jit / 1000)) = x at *
    have Hx := K.H.mk hx
    clear hx
    have hq : (m * s.jit).tdiv 1000 = m * s.jit / 1000 := Int.tdiv_eq_ediv_of_nonneg j2
    go_enter Try.func50, Try.ntmps50
    go_wp2_with (first | (go_at_call 23; (with_reducible refine (GM.out _).mono ?_); rintro e W1 ⟨rfl, hb1⟩; obtain ⟨hB1, hC1, hF1, hZ1⟩ := K.bel_facts hb1; clear hb1; have hZZ := hZ1; (try simp at hZZ); have hz1_0 : w.heap.size < W1.heap.size := (by omega); clear hZZ) | (go_at_call 63; (with_reducible refine (GS.out _).mono ?_); rintro e w' ⟨rfl, hw'⟩; have hw'2 := Eq.symm hw'; clear hw'; subst hw'2))
    go_ret2
    exact ⟨rfl, (by repeat (first | (with_reducible exact Below.refl _ _) | (with_reducible refine K.b_bel ?_ (by assumption)) | (with_reducible refine K.b_alloc ?_ _) | (with_reducible refine K.b_drewN ?_ _) | (with_reducible refine K.b_drew ?_) | (with_reducible refine K.b_set ?_ (by first | omega | (simp <;> omega)) _) | (with_reducible refine K.b_only ?_ (by assumption) (by first | omega | (simp <;> omega)))))⟩
  · have hd : (eMost s n != 0) = true := by simp [h]
    have HM : ∀ W, Calls Try.prog 23 #[s.a, .int .i64 n] W fun e w' => e = .returned (.tuple #[.int .i64 0, .int .i64 (eMost s n)]) ∧ Below W.heap.size W w' := fun W => by
      have h2 := rMost_c s n W
      rwa [show oMost s n = 0 by simp [oMost, h]] at h2
    have GM := K.H.mk HM
    rw [delay_no h]
    clear HM h
    go_enter Try.func50, Try.ntmps50
    go_wp2_with (first | (go_at_call 23; (with_reducible refine (GM.out _).mono ?_); rintro e W1 ⟨rfl, hb1⟩; obtain ⟨hB1, hC1, hF1, hZ1⟩ := K.bel_facts hb1; clear hb1; have hZZ := hZ1; (try simp at hZZ); have hz1_0 : w.heap.size < W1.heap.size := (by omega); clear hZZ))
    go_ret2
    exact ⟨rfl, (by repeat (first | (with_reducible exact Below.refl _ _) | (with_reducible refine K.b_bel ?_ (by assumption)) | (with_reducible refine K.b_alloc ?_ _) | (with_reducible refine K.b_drewN ?_ _) | (with_reducible refine K.b_drew ?_) | (with_reducible refine K.b_set ?_ (by first | omega | (simp <;> omega)) _) | (with_reducible refine K.b_only ?_ (by assumption) (by first | omega | (simp <;> omega)))))⟩
end Go.Proofs.Ytfepjpjkamlneaa.Bof
