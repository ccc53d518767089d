/- Subset: the reference's Round, Shuffle, rising. -/
import Derived.Test.YtpafbjffecpdmaaSb17
set_option linter.unusedVariables false
namespace Go.Proofs.Ytpafbjffecpdmaa.Sb
open Go.RowKit Go.Proofs.Ytpafbjffecpdmaa
attribute [local go_sem] K.max2_int K.min2_int K.max_two K.min_two K.max_three K.min_three
set_option linter.unusedSimpArgs false
set_option maxRecDepth 100000 in
set_option maxHeartbeats 2000000 in
theorem rRound_c (n c s : Int) (w : World) : Calls Try.prog 19 #[.int .i64 n, .int .i64 c, .int .i64 s] w fun e w' => e = .returned (.tuple #[.int .i64 (rnd n c s).1, .int .i64 (rnd n c s).2.1, .int .i64 (rnd n c s).2.2]) ∧ Below w.heap.size w w' := by
  by_cases h : rndBad n c s
  · rw [rnd_4 h]
    have H := K.H.mk h
    clear h
    go_enter Try.func19, Try.ntmps19
    go_wp2
    all_goals first
      | (go_ret3; exact ⟨rfl, (by repeat (first | (with_reducible exact Below.refl _ _) | (with_reducible refine K.b_bel ?_ (by assumption)) | (with_reducible refine K.b_alloc ?_ _) | (with_reducible refine K.b_drewN ?_ _) | (with_reducible refine K.b_drew ?_) | (with_reducible refine K.b_set ?_ (by first | omega | (simp <;> omega)) _) | (with_reducible refine K.b_only ?_ (by assumption) (by first | omega | (simp <;> omega)))))⟩)
      | (exfalso; have h := H.out; clear H; go_light; unfold rndBad at h; (try simp only [decide_eq_true_eq, decide_eq_false_iff_not] at *); omega)
  · have h0 := h
    unfold rndBad at h0
    have d1 : decide (n < 0) = false := decide_eq_false (by omega)
    have d2 : decide (32 < n) = false := decide_eq_false (by omega)
    have d3 : decide (c < 0) = false := decide_eq_false (by omega)
    have d4 : decide (1048576 < c) = false := decide_eq_false (by omega)
    have d5 : decide (s < 1) = false := decide_eq_false (by omega)
    have d6 : decide (32 < s) = false := decide_eq_false (by omega)
    by_cases h2 : n ≤ s
    · rw [rnd_0 h h2]
      have d7 : decide (n ≤ s) = true := decide_eq_true h2
      clear h h0 h2
      go_enter Try.func19, Try.ntmps19
      go_wp2
      go_ret3
      exact ⟨rfl, (by repeat (first | (with_reducible exact Below.refl _ _) | (with_reducible refine K.b_bel ?_ (by assumption)) | (with_reducible refine K.b_alloc ?_ _) | (with_reducible refine K.b_drewN ?_ _) | (with_reducible refine K.b_drew ?_) | (with_reducible refine K.b_set ?_ (by first | omega | (simp <;> omega)) _) | (with_reducible refine K.b_only ?_ (by assumption) (by first | omega | (simp <;> omega)))))⟩
    · rw [rnd_1 h h2]
      have d7 : decide (n ≤ s) = false := decide_eq_false h2
      have hs0 : s ≠ 0 := by omega
      have hs1 : s ≠ -1 := by omega
      have he1 : 1 ≤ n / s := Int.le_ediv_of_mul_le (by omega) (by omega)
      have he2 : n / s ≤ 32 := by have := Int.ediv_le_self s (a := n) (by omega); omega
      have e1 : n.tdiv s = n / s := Int.tdiv_eq_ediv_of_nonneg (by omega)
      have e2 : c.tdiv (n / s) = c / (n / s) := Int.tdiv_eq_ediv_of_nonneg (by omega)
      have e3 : c.tmod (n / s) = c % (n / s) := Int.tmod_eq_emod_of_nonneg (by omega)
      have hq0 : 0 ≤ c / (n / s) := Int.ediv_nonneg (by omega) (by omega)
      have hq1 : c / (n / s) ≤ c := Int.ediv_le_self _ (by omega)
      have hw : wrap64 (c / (n / s)) = c / (n / s) := IntWalk.wrap64_in _ (by omega)
      generalize n / s = q at *
      have hz0 : q ≠ 0 := by omega
      have hz1 : q ≠ -1 := by omega
      clear h h2 h0
      go_enter Try.func19, Try.ntmps19
      go_wp2
      go_region
      all_goals go_wp2
      all_goals (go_ret3; refine ⟨?_, (by repeat (first | (with_reducible exact Below.refl _ _) | (with_reducible refine K.b_bel ?_ (by assumption)) | (with_reducible refine K.b_alloc ?_ _) | (with_reducible refine K.b_drewN ?_ _) | (with_reducible refine K.b_drew ?_) | (with_reducible refine K.b_set ?_ (by first | omega | (simp <;> omega)) _) | (with_reducible refine K.b_only ?_ (by assumption) (by first | omega | (simp <;> omega)))))⟩; simp [hw])
theorem swp_comm (L : List Int) (k m : Nat) : (L.set m (L.getD k 0)).set k (L.getD m 0) = swp L k m := by
  unfold swp
  by_cases h : k = m
  · subst h; rw [List.set_set]
  · rw [List.set_comm _ _ (Ne.symm h)]
theorem swp_map2 (L : List Int) (k m : Nat) : ((L.map iv).set m (iv (L.getD k 0))).set k (iv (L.getD m 0)) = (swp L k m).map iv := by
  rw [← swp_comm, List.map_set, List.map_set]
set_option maxRecDepth 100000 in
set_option maxHeartbeats 4000000 in
theorem rShuffleG (nx : Nat → Nat) (bl : Nat → Nat → Nat) (hnx : ∀ s, nx s < 18446744073709551616) (hbl0 : ∀ s n, 1 ≤ n → bl s n < n)
    (hB : ∀ (s n : Nat) (w : World), 1 ≤ n → n ≤ 1048576 → Calls Try.prog 32 #[.int .u64 s, .int .i64 n] w fun e w' => e = .returned (.tuple #[.int .u64 (nx s : Nat), .int .i64 (bl s n : Nat)]) ∧ w' = w)
    (s n : Nat) (w : World) (hs : s < 18446744073709551616) (hn : n ≤ 1024) :
    Calls Try.prog 24 #[.int .u64 s, .int .i64 n] w fun e w' => ∃ v, e = .returned (.tuple #[.int .u64 ((shufG nx bl s n).1 : Nat), v, .int .i64 0]) ∧ w'.ownsRow w.heap.size 3 1 v n ((shufG nx bl s n).2.map iv) ∧ Below w.heap.size w w' := by
  have d1 : decide ((n : Int) < 0) = false := decide_eq_false (by omega)
  have d2 : decide ((1024 : Int) < n) = false := decide_eq_false (by omega)
  obtain ⟨p, hp⟩ : ∃ p, p = shufG nx bl s n := ⟨_, rfl⟩
  rw [← hp]
  have Hp := K.H.mk hp
  clear hp
  go_enter Try.func24, Try.ntmps24
  go_wp2
  clear d1 d2
  go_loopw [7, 8] (fun v i wr => ∃ k : Nat, k ≤ n ∧ i = .int .i64 k ∧ wr.ownsRow w.heap.size 3 1 v k ((rangeI k).map iv) ∧ K.H (Below w.heap.size w wr)) (fun _ i _ => n - (intOf i).toNat)
  case atStart => exact ⟨0, by omega, rfl, World.ownsRow_nil _ _ _ _, ⟨Below.refl _ _⟩⟩
  case round =>
    obtain ⟨k, hk, rfl, hown, Hb⟩ := hrel
    have hsz := Hb.out.size
    by_cases hlt : k < n
    · have hlt2 : (k : Int) < n := by omega
      go_wp2_with (first | (at_builtin; refine Sl.app1 (news := [.int .i64 k]) rfl _ _ 22 3 (.int .i64 0) rfl Try.underlying22 (by kernel_rfl : (Try.prog.info? 3).map (fun i => (i.zero, i.size, i.bytes)) = some (some (.int .i64 0), 1, 8)) rfl (by decide) (by decide) rfl ((hown).alloc _) rfl rfl (Sl.new_cells _ _ _ _ (by first | rfl | simp)) (by simp [Value.oneCell']) (by omega) (by simp <;> omega) ?_; intro v8 W8 hown8 hgr8))
      go_roundw
      case rel =>
        refine ⟨k + 1, by omega, by go_num, by rw [rangeI_succ]; simpa using hown8, ⟨?_⟩⟩
        exact Sl.below_grown (K.b_alloc Hb.out _) hgr8 (fun k hk => Sl.own_base hown k hk)
      case measure => simp [intOf]; omega
    · obtain rfl : k = n := by omega
      obtain ⟨A, c, rfl, hnc, hcm, hR⟩ := Sl.Rds.of_own2 hown
      clear hR hcm
      go_wp2
      go_loopw [0, 9] (fun st l wr => ∃ (m s' : Nat) (L : List Int), m ≤ k ∧ st = .int .u64 s' ∧ l = .int .i64 ((m : Int) - 1) ∧ s' < 18446744073709551616 ∧ L.length = k ∧ wr.ownsRow w.heap.size 3 1 (.slice A k c) k (L.map iv) ∧ K.H (Below w.heap.size w wr) ∧ K.H (p = shufL nx bl m s' L)) (fun _ l _ => (intOf l).toNat)
      case atStart => exact ⟨k, s, rangeI k, by omega, rfl, rfl, hs, rangeI_len k, hown, Hb, ⟨Hp.out⟩⟩
      case round =>
        clear hown Hb Hp hlt hsz
        obtain ⟨m, s', L, hm, rfl, rfl, hs', hL, hown, Hb, HP⟩ := hrel
        by_cases hlt : 1 < m
        · obtain ⟨m, rfl⟩ : ∃ j, m = j + 1 := ⟨m - 1, by omega⟩
          have hstep := shufL_step (nx := nx) (bl := bl) (m := m) (s := s') (L := L) (by omega)
          have HN := K.H.mk (HP.out.trans hstep)
          have hbl := hbl0 s' (m + 1) (by omega)
          have hl2 : ((m + 1 : Nat) : Int) = (m : Int) + 1 := by omega
          have hl3 : ((m + 1 : Nat) : Int) - 1 = (m : Int) := by omega
          have GB := K.H.mk (show ∀ W : World, Calls Try.prog 32 #[.int .u64 s', .int .i64 ((m : Int) + 1)] W fun e w' => e = .returned (.tuple #[.int .u64 (nx s' : Nat), .int .i64 (bl s' (m + 1) : Nat)]) ∧ w' = W from fun W => by have h := hB s' (m + 1) W (by omega) (by omega); rw [hl2] at h; exact h)
          have hmp : (0 : Int) < (m : Int) := by omega
          rw [hl3]
          obtain ⟨b1, cap1, he1, hbg, hbl1⟩ := own_form hown (by omega)
          cases he1
          clear HP hstep
          generalize bl s' (m + 1) = kk at *
          have hst := ((hown.stored m (iv (L.getD kk 0))).1.stored kk (iv (L.getD m 0))).1
          have hu1 := (hown.stored m (iv (L.getD kk 0))).1.cellAt kk (by omega)
          rw [swp_map2] at hst
          have hc_k : wr.cell? ⟨b1, kk, none⟩ = some (.int .i64 (L.getD kk 0)) := by rw [hown.cellAt kk (by omega), map_getD (by omega)]
          have hc_m : wr.cell? ⟨b1, m, none⟩ = some (.int .i64 (L.getD m 0)) := by rw [hown.cellAt m (by omega), map_getD (by omega)]
          have hf_k := hown.frozenAt kk
          have hf_m := hown.frozenAt m
          obtain ⟨u, hu⟩ : ∃ u, ((L.map iv).set m (iv (L.getD kk 0)))[kk]? = some u := ⟨_, List.getElem?_eq_getElem (by rw [List.length_set, List.length_map]; omega)⟩
          rw [hu] at hu1
          clear hu
          have hsl := swp_len L kk m
          generalize swp L kk m = L2 at *
          generalize L.getD m 0 = vm at *
          generalize L.getD kk 0 = vk at *
          have Hst := K.H.mk hst
          have hk1 : (kk : Int) < (k : Int) := by omega
          have hm1 : (m : Int) < (k : Int) := by omega
          have hk0 : (0 : Int) ≤ (kk : Int) := by omega
          clear hown hst
          go_wp2_with (first | (go_at_call 32; (with_reducible refine (GB.out _).mono ?_); rintro e w' ⟨rfl, hw'⟩; have hw'2 := Eq.symm hw'; clear hw'; subst hw'2))
          go_region
          all_goals go_wp2
          all_goals
            go_roundw
            case rel => exact ⟨m, nx s', L2, by omega, rfl, rfl, hnx _, by omega, Hst.out, ⟨(by repeat (first | (with_reducible exact Below.refl _ _) | (with_reducible exact Hb.out) | (with_reducible refine K.b_bel ?_ (by assumption)) | (with_reducible refine K.b_alloc ?_ _) | (with_reducible refine K.b_drewN ?_ _) | (with_reducible refine K.b_drew ?_) | (with_reducible refine K.b_set ?_ (by first | omega | (simp <;> omega)) _) | (with_reducible refine K.b_only ?_ (by assumption) (by first | omega | (simp <;> omega)))))⟩, HN⟩
            case measure => simp [intOf]; omega
        · have HE := K.H.mk (HP.out.trans (shufL_end (by omega)))
          have hl1 : ¬ (0 : Int) < (m : Int) - 1 := by omega
          go_wp2
          ((try simp only [Exit.inBlock, Exit.then]); refine bodyPost_ret (v := .tuple #[.int .u64 s', .slice A k c, .int .i64 0]) (by simp only [results, Try.results24]; go_simp) rfl ?_)
          rw [HE.out]
          exact ⟨_, rfl, hown, Hb.out⟩
theorem rShuffle_c (s n : Nat) (w : World) (hs : s < 18446744073709551616) (hn : n ≤ 1024) :
    Calls Try.prog 24 #[.int .u64 s, .int .i64 n] w fun e w' => ∃ v, e = .returned (.tuple #[.int .u64 ((shuf s n).1 : Nat), v, .int .i64 0]) ∧ w'.ownsRow w.heap.size 3 1 v n ((shuf s n).2.map iv) ∧ Below w.heap.size w w' :=
  rShuffleG nextS belN nextS_lt belN_lt (fun s n w h1 h2 => one_c s n w h1 h2) s n w hs hn
end Go.Proofs.Ytpafbjffecpdmaa.Sb
