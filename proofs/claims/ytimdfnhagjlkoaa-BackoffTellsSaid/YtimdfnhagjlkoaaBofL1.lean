/- BackoffGrows, BackoffRow: the walks. -/
import Derived.Test.YtimdfnhagjlkoaaBofR
import Derived.Test.YtimdfnhagjlkoaaSame
set_option linter.unusedVariables false
namespace Go.Proofs.Ytimdfnhagjlkoaa.Bof
open Go.RowKit Go.Proofs.Ytimdfnhagjlkoaa
attribute [local go_sem] K.max2_int K.min2_int K.max_two K.min_two K.max_three K.min_three
set_option linter.unusedSimpArgs false
theorem same_t (xs : List Int) (A B : Option Addr) (n m c d : Nat) (w : World) (hx : Sl.Rds w 1 A n (xs.flatMap fun n => [.int .i64 n])) (hy : Sl.Rds w 1 B m (xs.flatMap fun n => [.int .i64 n])) :
    Calls Try.prog 19 #[.slice A n c, .slice B m d] w fun e w' => e = .returned (.bool true) ∧ Below w.heap.size w w' := by
  have := Sl.same_c xs xs A B n m c d w hx hy
  rwa [show decide (xs = xs) = true by simp] at this
theorem four_rds (w : World) (g : Nat) (hg : g < w.heap.size) (a b c d : Int) (h : K.At w g 3 #[.int .i64 a, .int .i64 b, .int .i64 c, .int .i64 d]) : Sl.Rds w 1 (some ⟨g, 0, none⟩) 4 ([a, b, c, d].flatMap fun n => [.int .i64 n]) := by
  refine ⟨rfl, by simp [maxLen], fun _ => ⟨g, 0, rfl, hg, fun j hj => ?_⟩⟩
  rw [Nat.zero_add, h.cell]
  simp
set_option maxRecDepth 100000 in
set_option maxHeartbeats 1000000 in
theorem alive_c (w : World) : Calls Try.prog 15 #[] w fun e w' => e = .returned (.bool true) ∧ Below w.heap.size w w' := by
  have HR : ∀ W, Calls Try.prog 18 #[.agg #[.int .i64 2, .int .i64 5, .int .i64 0], .int .i64 4] W (RowPost W [2, 4, 5, 5] 0) := fun W => by
    have h2 := Row_c ⟨2, 5, 0⟩ 4 W
    rw [show oRow ⟨2, 5, 0⟩ 4 = [2, 4, 5, 5] by decide, show eRow ⟨2, 5, 0⟩ 4 = 0 by decide] at h2
    exact h2
  go_enter Try.func15, Try.ntmps15
  go_wp2_with (first | (go_at_call 18; (with_reducible refine (HR _).mono ?_); rintro e W1 ⟨v1, rfl, hown1, hb1⟩; obtain ⟨A1, c1, rfl, hca1, hcm1, hR1⟩ := Sl.Rds.of_own2 hown1; simp only [maxLen] at hcm1; clear hown1; obtain ⟨hB1, hC1, hF1, hZ1⟩ := K.bel_facts hb1; clear hb1; simp only [List.length_cons, List.length_nil, Nat.reduceAdd] at hR1) | (go_at_call 17; (with_reducible refine (num_c _ _).mono ?_); rintro e w' ⟨rfl, hw'⟩; have hw'2 := Eq.symm hw'; clear hw'; subst hw'2) | (go_at_call 19; (with_reducible refine (same_t [2, 4, 5, 5] _ _ _ _ _ _ _ (by rw [← Sl.map_flat]; exact hR1.below (K.b_alloc (Below.refl _ _) _)) (four_rds _ _ (by simp) 2 4 5 5 (K.At.new' _ _ _ _ (by simp)))).mono ?_); rintro e W2 ⟨rfl, hb2⟩; obtain ⟨hB2, hC2, hF2, hZ2⟩ := K.bel_facts hb2; clear hb2))
  go_ret
  exact ⟨rfl, (by repeat (first | (with_reducible exact Below.refl _ _) | (with_reducible refine K.b_bel ?_ (by assumption)) | (with_reducible refine K.b_alloc ?_ _) | (with_reducible refine K.b_drewN ?_ _) | (with_reducible refine K.b_drew ?_) | (with_reducible refine K.b_set ?_ (by first | omega | (simp <;> omega)) _) | (with_reducible refine K.b_only ?_ (by assumption) (by first | omega | (simp <;> omega)))))⟩
theorem tmod_in (n k : Int) (hk : 1 ≤ k) : (-k < n.tmod k ∧ n.tmod k < k) ∧ (0 ≤ (n.tmod k + k).tmod k ∧ (n.tmod k + k).tmod k < k) := by
  have h1 : -k < n.tmod k := by have := Int.lt_tmod_of_pos n (show (0 : Int) < k by omega); omega
  have h2 := Int.tmod_lt_of_pos n (show (0 : Int) < k by omega)
  exact ⟨⟨h1, h2⟩, Int.tmod_nonneg _ (by omega), Int.tmod_lt_of_pos _ (by omega)⟩
theorem mstI_grows {s : S} (h : Ok s) {n : Int} (hn : 1 ≤ n) : (1 ≤ mstI s n ∧ mstI s n ≤ 1048576) ∧ mstI s n ≤ mstI s (n + 1) ∧ (mstI s (n + 1) = 2 * mstI s n ∨ mstI s (n + 1) = s.cap) := by
  have h1 := mst_grows h (n - 1).toNat
  unfold mstI
  rw [show (n + 1 - 1).toNat = (n - 1).toNat + 1 by omega]
  exact ⟨mst_in h _, h1⟩
theorem Most_ok (s : S) (n : Int) (w : World) (h : Ok s) (hn : 1 ≤ n ∧ n ≤ 64) : Calls Try.prog 16 #[s.a, .int .i64 n] w fun e w' => e = .returned (.tuple #[.int .i64 (mstI s n), .int .i64 0]) ∧ Below w.heap.size w w' := by
  have := Most_c s n w
  rwa [(most_0 h hn).1, (most_0 h hn).2] at this
theorem Most_bad (s : S) (n : Int) (w : World) (h : ¬ Ok s) : Calls Try.prog 16 #[s.a, .int .i64 n] w fun e w' => e = .returned (.tuple #[.int .i64 0, .int .i64 4]) ∧ Below w.heap.size w w' := by
  have := Most_c s n w
  rwa [(most_4 h).1, (most_4 h).2] at this
theorem Row_bad (s : S) (n : Int) (w : World) (h : ¬ Ok s) : Calls Try.prog 18 #[s.a, .int .i64 n] w (RowPost w [] 4) := by
  have := Row_c s n w
  rwa [(row_4 h).1, (row_4 h).2] at this
set_option maxRecDepth 100000 in
set_option maxHeartbeats 1000000 in
theorem Grows_c (s : S) (n : Int) (w : World) : Calls Try.prog 3 #[s.a, .int .i64 n] w fun e w' => e = .returned (.bool true) ∧ Below w.heap.size w w' := by
  obtain ⟨⟨a1, a2⟩, ⟨a3, a4⟩⟩ := tmod_in n 63 (by omega)
  by_cases h : Ok s
  · have Hh := K.H.mk h
    clear h
    have hm : 1 ≤ 1 + n.tmod 63 % 63 ∧ 1 + n.tmod 63 % 63 ≤ 63 := by omega
    obtain ⟨⟨g1, g2⟩, g3, g4⟩ := mstI_grows Hh.out hm.1
    have hd : decide (mstI s (1 + n.tmod 63 % 63) ≤ mstI s (1 + n.tmod 63 % 63 + 1)) = true := by simpa using g3
    rcases g4 with g4 | g4
    · have hq : (mstI s (1 + n.tmod 63 % 63 + 1) == 2 * mstI s (1 + n.tmod 63 % 63)) = true := by simpa using g4
      clear g4
      go_enter Try.func3, Try.ntmps3
      go_wp2_with (first | (go_at_call 15; (with_reducible refine (alive_c _).mono ?_); rintro e W1 ⟨rfl, hb1⟩; obtain ⟨hB1, hC1, hF1, hZ1⟩ := K.bel_facts hb1; clear hb1; have hZZ := hZ1; (try simp at hZZ); have hz1_0 : w.heap.size < W1.heap.size := (by omega); clear hZZ) | (go_at_call 16; (with_reducible refine (Most_ok s _ _ Hh.out (by omega)).mono ?_); rintro e W2 ⟨rfl, hb2⟩; obtain ⟨hB2, hC2, hF2, hZ2⟩ := K.bel_facts hb2; clear hb2; have hZZ := hZ2; (try simp at hZZ); have hz2_0 : w.heap.size < W2.heap.size := (by omega); (try have hz2_1_0 : W1.heap.size < W2.heap.size := (by omega)); (try have hz2_1_1 : W1.heap.size + 1 < W2.heap.size := (by omega)); clear hZZ) | (go_at_call 17; (with_reducible refine (num_c _ _).mono ?_); rintro e w' ⟨rfl, hw'⟩; have hw'2 := Eq.symm hw'; clear hw'; subst hw'2))
      all_goals (go_ret; exact ⟨rfl, (by repeat (first | (with_reducible exact Below.refl _ _) | (with_reducible refine K.b_bel ?_ (by assumption)) | (with_reducible refine K.b_alloc ?_ _) | (with_reducible refine K.b_drewN ?_ _) | (with_reducible refine K.b_drew ?_) | (with_reducible refine K.b_set ?_ (by first | omega | (simp <;> omega)) _) | (with_reducible refine K.b_only ?_ (by assumption) (by first | omega | (simp <;> omega)))))⟩)
    · have hq : (mstI s (1 + n.tmod 63 % 63 + 1) == s.cap) = true := by simpa using g4
      clear g4
      go_enter Try.func3, Try.ntmps3
      go_wp2_with (first | (go_at_call 15; (with_reducible refine (alive_c _).mono ?_); rintro e W1 ⟨rfl, hb1⟩; obtain ⟨hB1, hC1, hF1, hZ1⟩ := K.bel_facts hb1; clear hb1; have hZZ := hZ1; (try simp at hZZ); have hz1_0 : w.heap.size < W1.heap.size := (by omega); clear hZZ) | (go_at_call 16; (with_reducible refine (Most_ok s _ _ Hh.out (by omega)).mono ?_); rintro e W2 ⟨rfl, hb2⟩; obtain ⟨hB2, hC2, hF2, hZ2⟩ := K.bel_facts hb2; clear hb2; have hZZ := hZ2; (try simp at hZZ); have hz2_0 : w.heap.size < W2.heap.size := (by omega); (try have hz2_1_0 : W1.heap.size < W2.heap.size := (by omega)); (try have hz2_1_1 : W1.heap.size + 1 < W2.heap.size := (by omega)); clear hZZ) | (go_at_call 17; (with_reducible refine (num_c _ _).mono ?_); rintro e w' ⟨rfl, hw'⟩; have hw'2 := Eq.symm hw'; clear hw'; subst hw'2))
      all_goals (go_ret; exact ⟨rfl, (by repeat (first | (with_reducible exact Below.refl _ _) | (with_reducible refine K.b_bel ?_ (by assumption)) | (with_reducible refine K.b_alloc ?_ _) | (with_reducible refine K.b_drewN ?_ _) | (with_reducible refine K.b_drew ?_) | (with_reducible refine K.b_set ?_ (by first | omega | (simp <;> omega)) _) | (with_reducible refine K.b_only ?_ (by assumption) (by first | omega | (simp <;> omega)))))⟩)
  · have Hh := K.H.mk h
    clear h
    go_enter Try.func3, Try.ntmps3
    go_wp2_with (first | (go_at_call 15; (with_reducible refine (alive_c _).mono ?_); rintro e W1 ⟨rfl, hb1⟩; obtain ⟨hB1, hC1, hF1, hZ1⟩ := K.bel_facts hb1; clear hb1; have hZZ := hZ1; (try simp at hZZ); have hz1_0 : w.heap.size < W1.heap.size := (by omega); clear hZZ) | (go_at_call 16; (with_reducible refine (Most_bad s _ _ Hh.out).mono ?_); rintro e W2 ⟨rfl, hb2⟩; obtain ⟨hB2, hC2, hF2, hZ2⟩ := K.bel_facts hb2; clear hb2; have hZZ := hZ2; (try simp at hZZ); have hz2_0 : w.heap.size < W2.heap.size := (by omega); (try have hz2_1_0 : W1.heap.size < W2.heap.size := (by omega)); (try have hz2_1_1 : W1.heap.size + 1 < W2.heap.size := (by omega)); clear hZZ) | (go_at_call 17; (with_reducible refine (num_c _ _).mono ?_); rintro e w' ⟨rfl, hw'⟩; have hw'2 := Eq.symm hw'; clear hw'; subst hw'2))
    go_ret
    exact ⟨rfl, (by repeat (first | (with_reducible exact Below.refl _ _) | (with_reducible refine K.b_bel ?_ (by assumption)) | (with_reducible refine K.b_alloc ?_ _) | (with_reducible refine K.b_drewN ?_ _) | (with_reducible refine K.b_drew ?_) | (with_reducible refine K.b_set ?_ (by first | omega | (simp <;> omega)) _) | (with_reducible refine K.b_only ?_ (by assumption) (by first | omega | (simp <;> omega)))))⟩
def rl (s : S) (k : Nat) : List Int := (List.range k).map (mst s)
theorem rl_get (s : S) {j N : Nat} (h : j < N) : (rl s N)[j]? = some (mst s j) := by simp [rl, h]
theorem rl_take (s : S) {j N : Nat} (h : j ≤ N) : (rl s N).take j = rl s j := by
  unfold rl
  rw [← List.map_take, List.take_range, Nat.min_eq_left h]
theorem rowl_len (s : S) (k : Nat) : ((List.range k).map (mst s)).length = k := by simp
set_option maxRecDepth 100000 in
set_option maxHeartbeats 1000000 in
theorem RowLaw_c (s : S) (n k : Int) (w : World) : Calls Try.prog 4 #[s.a, .int .i64 n, .int .i64 k] w fun e w' => e = .returned (.bool true) ∧ Below w.heap.size w w' := by
  obtain ⟨⟨a1, a2⟩, ⟨a3, a4⟩⟩ := tmod_in n 65 (by omega)
  have hm : 0 ≤ n.tmod 65 % 65 ∧ n.tmod 65 % 65 ≤ 64 := by omega
  obtain ⟨⟨b1, b2⟩, ⟨b3, b4⟩⟩ := tmod_in k (n.tmod 65 % 65 + 1) (by omega)
  by_cases h : Ok s
  · have Hh := K.H.mk h
    clear h
    go_enter Try.func4, Try.ntmps4
    have hX0 : 0 ≤ (k.tmod (n.tmod 65 % 65 + 1) + n.tmod 65 % 65 + 1) % (n.tmod 65 % 65 + 1) := Int.emod_nonneg _ (by omega)
    have hX1 : (k.tmod (n.tmod 65 % 65 + 1) + n.tmod 65 % 65 + 1) % (n.tmod 65 % 65 + 1) < n.tmod 65 % 65 + 1 := Int.emod_lt_of_pos _ (by omega)
    go_wp2_with (first | (go_at_call 15; (with_reducible refine (alive_c _).mono ?_); rintro e W1 ⟨rfl, hb1⟩; obtain ⟨hB1, hC1, hF1, hZ1⟩ := K.bel_facts hb1; clear hb1; have hZZ := hZ1; (try simp at hZZ); have hz1_0 : w.heap.size < W1.heap.size := (by omega); clear hZZ) | (go_at_call 18; (with_reducible refine (Row_ok s Hh.out (n.tmod 65 % 65) (by omega) (by omega) _).mono ?_); rintro e W2 ⟨v2, rfl, hown2, hb2⟩; obtain ⟨A2, c2, rfl, hca2, hcm2, hR2⟩ := Sl.Rds.of_own2 hown2; simp only [maxLen] at hcm2; clear hown2; obtain ⟨hB2, hC2, hF2, hZ2⟩ := K.bel_facts hb2; clear hb2; have hZZ := hZ2; (try simp at hZZ); have hz2_0 : w.heap.size < W2.heap.size := (by omega); (try have hz2_1_0 : W1.heap.size < W2.heap.size := (by omega)); (try have hz2_1_1 : W1.heap.size + 1 < W2.heap.size := (by omega)); clear hZZ) | (go_at_call 18; (with_reducible refine (Row_ok s Hh.out _ hX0 (by omega) _).mono ?_); rintro e W3 ⟨v3, rfl, hown3, hb3⟩; obtain ⟨A3, c3, rfl, hca3, hcm3, hR3⟩ := Sl.Rds.of_own2 hown3; simp only [maxLen] at hcm3; clear hown3; obtain ⟨hB3, hC3, hF3, hZ3⟩ := K.bel_facts hb3; clear hb3; have hZZ := hZ3; (try simp at hZZ); have hz3_0 : w.heap.size < W3.heap.size := (by omega); (try have hz3_1_0 : W1.heap.size < W3.heap.size := (by omega)); (try have hz3_1_1 : W1.heap.size + 1 < W3.heap.size := (by omega)); (try have hz3_2_0 : W2.heap.size < W3.heap.size := (by omega)); (try have hz3_2_1 : W2.heap.size + 1 < W3.heap.size := (by omega)); clear hZZ) | (go_at_call 17; (with_reducible refine (num_c _ _).mono ?_); rintro e w' ⟨rfl, hw'⟩; have hw'2 := Eq.symm hw'; clear hw'; subst hw'2))
    rw [rowl_len] at hca2 hca3 hR2 hR3
    (try simp only [rowl_len])
    rw [show (List.range (n.tmod 65 % 65).toNat).map (mst s) = rl s (n.tmod 65 % 65).toNat from rfl, Sl.map_flat] at hR2
    rw [show (List.range ((k.tmod (n.tmod 65 % 65 + 1) + n.tmod 65 % 65 + 1) % (n.tmod 65 % 65 + 1)).toNat).map (mst s) = rl s ((k.tmod (n.tmod 65 % 65 + 1) + n.tmod 65 % 65 + 1) % (n.tmod 65 % 65 + 1)).toNat from rfl, Sl.map_flat] at hR3
    clear b1 b2 b3 b4 a1 a2 a3 a4
    generalize (k.tmod (n.tmod 65 % 65 + 1) + n.tmod 65 % 65 + 1) % (n.tmod 65 % 65 + 1) = X at *
    generalize n.tmod 65 % 65 = N at *
    obtain ⟨X, rfl⟩ := Int.eq_ofNat_of_zero_le hX0
    obtain ⟨N, rfl⟩ := Int.eq_ofNat_of_zero_le hm.1
    simp only [Int.toNat_natCast] at hR2 hR3 hca2 hca3 ⊢
    have HX := K.H.mk (hR3)
    have HN := K.H.mk (hR2.bel hB3)
    have hXN : X ≤ N := by omega
    have HA : K.At W3 w.heap.size 23 s.c := (by refine K.At.cast (by repeat (first | (with_reducible refine K.At.new' _ _ _ _ (by first | rfl | (simp; done) | omega)) | (with_reducible apply K.At.over hB3) | (with_reducible apply K.At.over hB2) | (with_reducible apply K.At.over hB1) | (with_reducible apply K.At.set) | (with_reducible apply K.At.alloc) | (with_reducible apply K.At.drewN) | (with_reducible apply K.At.drew) | (with_reducible apply K.At.far) | omega | (simp <;> omega))) ?_; rfl)
    have hb3 : Below w.heap.size w W3 := (by repeat (first | (with_reducible exact Below.refl _ _) | (with_reducible refine K.b_bel ?_ (by assumption)) | (with_reducible refine K.b_alloc ?_ _) | (with_reducible refine K.b_drewN ?_ _) | (with_reducible refine K.b_drew ?_) | (with_reducible refine K.b_set ?_ (by first | omega | (simp <;> omega)) _) | (with_reducible refine K.b_only ?_ (by assumption) (by first | omega | (simp <;> omega)))))
    have hsz := HA.lt
    have HB3 := K.H.mk hb3
    clear hb3 hR2 hR3
    ((try clear hC3); (try clear hF3); (try clear hZ3); (try clear hc3); (try clear hf3); (try clear hl3); (try clear hB3); (try clear hO3); (try clear hA3); (try clear hz3_0); (try clear hz3_1); (try clear hz3_2); (try clear hz3_3); (try clear hz3_1_0); (try clear hz3_1_1); (try clear hz3_2_0); (try clear hz3_2_1); (try clear hC2); (try clear hF2); (try clear hZ2); (try clear hc2); (try clear hf2); (try clear hl2); (try clear hB2); (try clear hO2); (try clear hA2); (try clear hz2_0); (try clear hz2_1); (try clear hz2_2); (try clear hz2_3); (try clear hz2_1_0); (try clear hz2_1_1); (try clear hC1); (try clear hF1); (try clear hZ1); (try clear hc1); (try clear hf1); (try clear hl1); (try clear hB1); (try clear hO1); (try clear hA1); (try clear hz1_0); (try clear hz1_1); (try clear hz1_2); (try clear hz1_3); (try clear hX0); (try clear hX1))
    go_loopw [11] (fun i wr => ∃ j : Nat, j ≤ N ∧ i = .int .i64 j ∧ K.At wr w.heap.size 23 s.c ∧ K.H (Below W3.heap.size W3 wr)) (fun i _ => N - (intOf i).toNat)
    case atStart => exact ⟨0, by omega, rfl, HA, ⟨Below.refl _ _⟩⟩
    case round =>
      clear HA
      obtain ⟨j, hj, rfl, hA, Hb⟩ := hrel
      have hZ := Hb.out.size
      have hA' := hA
      obtain ⟨hc5, hf5, hl5⟩ := K.At.facts hA
      by_cases hlt : j < N
      · have hx := rl_get s hlt
        obtain ⟨b, off, rfl, hbl, hbc⟩ := Sl.Rds.elem HN.out (enc := fun n => [.int .i64 n]) (fun _ => rfl) (by omega) hx
        have q_0 : wr.cell? ⟨b, off + j, none⟩ = some (.int .i64 (mst s j)) := by
          have := (Hb.out.cell (p := ⟨b, off + j * 1 + 0, none⟩) hbl).trans (hbc 0 (by omega))
          simpa using this
        have hbw : b < wr.heap.size := Nat.lt_of_lt_of_le hbl Hb.out.size
        clear hx hbc
        have HM : ∀ W, Calls Try.prog 16 #[s.a, .int .i64 (j + 1)] W fun e w' => e = .returned (.tuple #[.int .i64 (mst s j), .int .i64 0]) ∧ Below W.heap.size W w' := fun W => by
          have h2 := Most_ok s (j + 1) W Hh.out (by omega)
          rwa [show mstI s (j + 1) = mst s j by unfold mstI; congr; omega] at h2
        have GM := K.H.mk HM
        clear HM
        have hbz := hbw
        go_wp2_with (first | (go_at_call 16; (with_reducible refine (GM.out _).mono ?_); rintro e W4 ⟨rfl, hb4⟩; obtain ⟨hB4, hC4, hF4, hZ4⟩ := K.bel_facts hb4; clear hb4; have hZZ := hZ4; (try simp at hZZ); have hz4_0 : w.heap.size < W4.heap.size := (by omega); (try have hz4_1_0 : W1.heap.size < W4.heap.size := (by omega)); (try have hz4_1_1 : W1.heap.size + 1 < W4.heap.size := (by omega)); (try have hz4_2_0 : W2.heap.size < W4.heap.size := (by omega)); (try have hz4_2_1 : W2.heap.size + 1 < W4.heap.size := (by omega)); (try have hz4_3_0 : W3.heap.size < W4.heap.size := (by omega)); (try have hz4_3_1 : W3.heap.size + 1 < W4.heap.size := (by omega)); clear hZZ; have hbw4 : b < W4.heap.size := (by omega)) | (go_at_call 17; (with_reducible refine (num_c _ _).mono ?_); rintro e w' ⟨rfl, hw'⟩; have hw'2 := Eq.symm hw'; clear hw'; subst hw'2))
        go_roundw
        case rel => exact ⟨j + 1, by omega, by go_num, K.At.over hB4 hA', ⟨Hb.out.trans (hB4.out.mono hZ)⟩⟩
        case measure => simp [intOf]; omega
      · obtain rfl : j = N := by omega
        have HS : ∀ W, K.Bel wr W → Calls Try.prog 19 #[.slice A3 X c3, .slice A2 X c2] W fun e w' => e = .returned (.bool true) ∧ Below W.heap.size W w' := fun W hW => by
          have h1 : Sl.Rds W 1 A3 X ((rl s X).flatMap fun n => [.int .i64 n]) := (HX.out.below Hb.out).bel hW
          have h2 : Sl.Rds W 1 A2 X ((rl s X).flatMap fun n => [.int .i64 n]) := by
            have := ((HN.out.below Hb.out).bel hW).take hXN
            rwa [← Sl.map_flat, ← List.map_take, rl_take s hXN, Sl.map_flat] at this
          exact same_t (rl s X) _ _ _ _ _ _ W h1 h2
        have GS := K.H.mk HS
        clear HS
        go_wp2_with (first | (go_at_call 19; (with_reducible refine (GS.out _ ⟨(by repeat (first | (with_reducible exact Below.refl _ _) | (with_reducible refine K.b_bel ?_ (by assumption)) | (with_reducible refine K.b_alloc ?_ _) | (with_reducible refine K.b_drewN ?_ _) | (with_reducible refine K.b_drew ?_) | (with_reducible refine K.b_set ?_ (by first | omega | (simp <;> omega)) _) | (with_reducible refine K.b_only ?_ (by assumption) (by first | omega | (simp <;> omega)))))⟩).mono ?_); rintro e W4 ⟨rfl, hb4⟩; obtain ⟨hB4, hC4, hF4, hZ4⟩ := K.bel_facts hb4; clear hb4) | (go_at_call 17; (with_reducible refine (num_c _ _).mono ?_); rintro e w' ⟨rfl, hw'⟩; have hw'2 := Eq.symm hw'; clear hw'; subst hw'2))
        go_ret
        exact ⟨rfl, (HB3.out.trans (Hb.out.mono (by omega))).trans (hB4.out.mono (by omega))⟩
  · have Hh := K.H.mk h
    clear h
    go_enter Try.func4, Try.ntmps4
    go_wp2_with (first | (go_at_call 15; (with_reducible refine (alive_c _).mono ?_); rintro e W1 ⟨rfl, hb1⟩; obtain ⟨hB1, hC1, hF1, hZ1⟩ := K.bel_facts hb1; clear hb1; have hZZ := hZ1; (try simp at hZZ); have hz1_0 : w.heap.size < W1.heap.size := (by omega); clear hZZ) | (go_at_call 18; (with_reducible refine (Row_bad s _ _ Hh.out).mono ?_); rintro e W2 ⟨v2, rfl, hown2, hb2⟩; obtain ⟨A2, c2, rfl, hca2, hcm2, hR2⟩ := Sl.Rds.of_own2 hown2; simp only [maxLen] at hcm2; clear hown2; obtain ⟨hB2, hC2, hF2, hZ2⟩ := K.bel_facts hb2; clear hb2; have hZZ := hZ2; (try simp at hZZ); have hz2_0 : w.heap.size < W2.heap.size := (by omega); (try have hz2_1_0 : W1.heap.size < W2.heap.size := (by omega)); (try have hz2_1_1 : W1.heap.size + 1 < W2.heap.size := (by omega)); clear hZZ) | (go_at_call 17; (with_reducible refine (num_c _ _).mono ?_); rintro e w' ⟨rfl, hw'⟩; have hw'2 := Eq.symm hw'; clear hw'; subst hw'2))
    go_ret
    exact ⟨rfl, (by repeat (first | (with_reducible exact Below.refl _ _) | (with_reducible refine K.b_bel ?_ (by assumption)) | (with_reducible refine K.b_alloc ?_ _) | (with_reducible refine K.b_drewN ?_ _) | (with_reducible refine K.b_drew ?_) | (with_reducible refine K.b_set ?_ (by first | omega | (simp <;> omega)) _) | (with_reducible refine K.b_only ?_ (by assumption) (by first | omega | (simp <;> omega)))))⟩
end Go.Proofs.Ytimdfnhagjlkoaa.Bof
