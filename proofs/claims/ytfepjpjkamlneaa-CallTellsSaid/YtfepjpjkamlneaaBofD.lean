/- Backoff: Delay; BackoffBounds, BackoffJitter: the walks. -/
import Derived.Test.YtfepjpjkamlneaaBofS
import Derived.Test.YtfepjpjkamlneaaBofL1
set_option linter.unusedVariables false
namespace Go.Proofs.Ytfepjpjkamlneaa.Bof
open Go.RowKit Go.Proofs.Ytfepjpjkamlneaa
attribute [local go_sem] K.max2_int K.min2_int K.max_two K.min_two K.max_three K.min_three
set_option linter.unusedSimpArgs false
/-- What jitter takes at most, and one. -/
def jitn (s : S) (m : Int) : Int := K.mn (m * s.jit / 1000 + 1) 1048576
def less (s : S) (m d : Int) : Int := K.mx (m - shr d (jitn s m)) 1
theorem jitn_in {s : S} (h : Ok s) {m : Int} (h0 : 1 ≤ m) (h1 : m ≤ 1048576) : (1 ≤ jitn s m ∧ jitn s m ≤ 1048576) ∧ (0 ≤ m * s.jit ∧ m * s.jit ≤ 1048576000) := by
  unfold Ok at h
  have a0 : 0 ≤ m * s.jit := Int.mul_nonneg (by omega) (by omega)
  have a1 : m * s.jit ≤ 1048576 * 1000 := Int.le_trans (Int.mul_le_mul_of_nonneg_right h1 (by omega)) (Int.mul_le_mul_of_nonneg_left h.2.2.2 (by omega))
  unfold jitn K.mn
  split <;> omega
theorem less_in {s : S} (h : Ok s) {m d : Int} (h0 : 1 ≤ m) (h1 : m ≤ 1048576) (d0 : 0 ≤ d) (d1 : d < 18446744073709551616) : 1 ≤ less s m d ∧ less s m d ≤ m := by
  have hj := (jitn_in h h0 h1).1
  have hr := shr_in d0 d1 hj.1
  unfold less K.mx
  split <;> omega
theorem less_none {s : S} (h : Ok s) {m d : Int} (h0 : 1 ≤ m) (h1 : m ≤ 1048576) (d0 : 0 ≤ d) (d1 : d < 18446744073709551616) (hj : s.jit ≤ 0) : less s m d = m := by
  have hz : s.jit = 0 := by unfold Ok at h; omega
  have hn : jitn s m = 1 := by simp [jitn, hz, K.mn]
  have hr := shr_in (n := 1) d0 d1 (by omega)
  unfold less K.mx
  rw [hn]
  split <;> omega
theorem less_mono {s : S} (h : Ok s) {m a b : Int} (h0 : 1 ≤ m) (h1 : m ≤ 1048576) (hab : a ≤ b) : less s m b ≤ less s m a := by
  have hr := shr_mono (x := a) (y := b) (n := jitn s m) hab (jitn_in h h0 h1).1.1
  unfold less K.mx
  split <;> split <;> omega
theorem u64_wf {n : Int} (h : (Lit.int .u64 n).wf = true) : 0 ≤ n ∧ n < 18446744073709551616 := by
  simp [Lit.wf, IntKind.min, IntKind.max, IntKind.signed, IntKind.bits] at h
  omega
set_option maxRecDepth 100000 in
set_option maxHeartbeats 1000000 in
theorem less_c (s : S) (m d : Int) (w : World) (h : Ok s) (h0 : 1 ≤ m) (h1 : m ≤ 1048576) (d0 : 0 ≤ d) (d1 : d < 18446744073709551616) :
    Calls Try.prog 61 #[s.a, .int .i64 m, .int .u64 d] w fun e w' => e = .returned (.int .i64 (less s m d)) ∧ Below w.heap.size w w' := by
  obtain ⟨⟨j0, j1⟩, j2, j3⟩ := jitn_in h h0 h1
  have hr := shr_in d0 d1 j0
  have GS := K.H.mk (fun W => share_c d (jitn s m) W d0 d1 j0 j1)
  unfold less
  unfold jitn at *
  generalize hx : shr d (K.mn (m * s.jit / 1000 + 1) 1048576) = x at *
  have Hx := K.H.mk hx
  clear hx
  have hq : (m * s.jit).tdiv 1000 = m * s.jit / 1000 := Int.tdiv_eq_ediv_of_nonneg j2
  go_enter Try.func61, Try.ntmps61
  go_wp2_with (go_at_call 66; (with_reducible refine (GS.out _).mono ?_); rintro e w' ⟨rfl, hw'⟩; have hw'2 := Eq.symm hw'; clear hw'; subst hw'2)
  go_ret
  exact ⟨rfl, (by repeat (first | (with_reducible exact Below.refl _ _) | (with_reducible refine K.b_bel ?_ (by assumption)) | (with_reducible refine K.b_alloc ?_ _) | (with_reducible refine K.b_drewN ?_ _) | (with_reducible refine K.b_drew ?_) | (with_reducible refine K.b_set ?_ (by first | omega | (simp <;> omega)) _) | (with_reducible refine K.b_only ?_ (by assumption) (by first | omega | (simp <;> omega)))))⟩
def oDelay (s : S) (n d : Int) : Int := if eMost s n = 0 then less s (mstI s n) d else 0
theorem mstI_in {s : S} (h : Ok s) (n : Int) : 1 ≤ mstI s n ∧ mstI s n ≤ 1048576 := mst_in h _
theorem delay_0 {s : S} {n d : Int} (h : Ok s) (hn : 1 ≤ n ∧ n ≤ 64) : oDelay s n d = less s (mstI s n) d := by simp [oDelay, (most_0 h hn).1]
theorem delay_no {s : S} {n d : Int} (h : eMost s n ≠ 0) : oDelay s n d = 0 := by simp [oDelay, h]
theorem eMost_ok {s : S} {n : Int} (h : eMost s n = 0) : Ok s ∧ 1 ≤ n ∧ n ≤ 64 := by
  unfold eMost at h
  split at h
  · split at h
    · exact ⟨by assumption, by assumption⟩
    · omega
  · omega
set_option maxRecDepth 100000 in
set_option maxHeartbeats 1000000 in
theorem Delay_c (s : S) (n d : Int) (w : World) (d0 : 0 ≤ d) (d1 : d < 18446744073709551616) : Calls Try.prog 46 #[s.a, .int .i64 n, .int .u64 d] w fun e w' => e = .returned (.tuple #[.int .i64 (oDelay s n d), .int .i64 (eMost s n)]) ∧ Below w.heap.size w w' := by
  by_cases h : eMost s n = 0
  · obtain ⟨ho, hn⟩ := eMost_ok h
    have hm := mstI_in ho n
    have GM := K.H.mk (fun W => Most_ok s n W ho hn)
    have GL := K.H.mk (fun W => less_c s (mstI s n) d W ho hm.1 hm.2 d0 d1)
    rw [delay_0 ho hn, h]
    clear h ho hm
    generalize mstI s n = m at *
    generalize less s m d = y at *
    go_enter Try.func46, Try.ntmps46
    go_wp2_with (first | (go_at_call 60; (with_reducible refine (GM.out _).mono ?_); rintro e W1 ⟨rfl, hb1⟩; obtain ⟨hB1, hC1, hF1, hZ1⟩ := K.bel_facts hb1; clear hb1; have hZZ := hZ1; (try simp at hZZ); have hz1_0 : w.heap.size < W1.heap.size := (by omega); clear hZZ) | (go_at_call 61; (with_reducible refine (GL.out _).mono ?_); rintro e W2 ⟨rfl, hb2⟩; obtain ⟨hB2, hC2, hF2, hZ2⟩ := K.bel_facts hb2; clear hb2))
    go_ret2
    exact ⟨rfl, (by repeat (first | (with_reducible exact Below.refl _ _) | (with_reducible refine K.b_bel ?_ (by assumption)) | (with_reducible refine K.b_alloc ?_ _) | (with_reducible refine K.b_drewN ?_ _) | (with_reducible refine K.b_drew ?_) | (with_reducible refine K.b_set ?_ (by first | omega | (simp <;> omega)) _) | (with_reducible refine K.b_only ?_ (by assumption) (by first | omega | (simp <;> omega)))))⟩
  · have hd : (eMost s n != 0) = true := by simp [h]
    have HM : ∀ W, Calls Try.prog 60 #[s.a, .int .i64 n] W fun e w' => e = .returned (.tuple #[.int .i64 0, .int .i64 (eMost s n)]) ∧ Below W.heap.size W w' := fun W => by
      have h2 := Most_c s n W
      rwa [show oMost s n = 0 by simp [oMost, h]] at h2
    have GM := K.H.mk HM
    rw [delay_no h]
    clear HM h
    go_enter Try.func46, Try.ntmps46
    go_wp2_with (first | (go_at_call 60; (with_reducible refine (GM.out _).mono ?_); rintro e W1 ⟨rfl, hb1⟩; obtain ⟨hB1, hC1, hF1, hZ1⟩ := K.bel_facts hb1; clear hb1; have hZZ := hZ1; (try simp at hZZ); have hz1_0 : w.heap.size < W1.heap.size := (by omega); clear hZZ))
    go_ret2
    exact ⟨rfl, (by repeat (first | (with_reducible exact Below.refl _ _) | (with_reducible refine K.b_bel ?_ (by assumption)) | (with_reducible refine K.b_alloc ?_ _) | (with_reducible refine K.b_drewN ?_ _) | (with_reducible refine K.b_drew ?_) | (with_reducible refine K.b_set ?_ (by first | omega | (simp <;> omega)) _) | (with_reducible refine K.b_only ?_ (by assumption) (by first | omega | (simp <;> omega)))))⟩
end Go.Proofs.Ytfepjpjkamlneaa.Bof
