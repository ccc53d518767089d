/- Histograms: the reference's Check and Quantile. -/
import Derived.Test.YtimdfnhagjlkoaaHstB
set_option linter.unusedVariables false
namespace Go.Proofs.Ytimdfnhagjlkoaa.Hst
open Go.RowKit Go.Proofs.Ytimdfnhagjlkoaa
attribute [local go_sem] K.max2_int K.min2_int K.max_two K.min_two K.max_three K.min_three
set_option linter.unusedSimpArgs false
theorem any_snoc {xs : List Int} {k : Nat} {x : Int} (h : xs[k]? = some x) (ho : Sl.anyOf oddc (xs.take k) = false) (hx : oddc x = false) : Sl.anyOf oddc (xs.take (k + 1)) = false := by
  obtain ⟨hk, he⟩ := List.getElem?_eq_some_iff.1 h
  rw [List.take_succ_eq_append_getElem hk, he]
  unfold Sl.anyOf at *
  simp [ho, hx]
theorem hok_odd {xs : List Int} {t : Int} {k : Nat} {x : Int} (h : xs[k]? = some x) (hx : oddc x = true) : ¬ HOk xs t := fun hh => by
  have := Sl.anyOf_false hh.2.1 x (List.mem_of_getElem? h)
  rw [hx] at this
  cases this
set_option maxRecDepth 100000 in
set_option maxHeartbeats 4000000 in
theorem rCheck_c (xs : List Int) (t : Int) (A : Option Addr) (n c : Nat) (w : World) (hr : Sl.Rds w 1 A n (xs.flatMap I1)) :
    Calls Try.prog 43 #[.agg #[.slice A n c, .int .i64 t]] w fun e w' => e = .returned (.int .i64 (eCk xs t)) ∧ Below w.heap.size w w' := by
  obtain rfl := hr.length (fun _ => rfl) (by omega)
  have hle := hr.le
  have Hr := K.H.mk hr
  clear hr
  by_cases hlen : xs.length = 0 ∨ xs.length = 81
  · have hl81 : xs.length ≤ 81 := by omega
    have hl2 : ((xs.length : Int) != 0) = true → ((xs.length : Int) != 81) = false := fun h => by
      rcases hlen with h1 | h1
      · rw [h1] at h; simp at h
      · rw [h1]; rfl
    have Hlen := K.H.mk hlen
    clear hlen
    cases hz : ((xs.length : Int) != 0)
    · go_enter Try.func43, Try.ntmps43
      go_wp2
      refine K.wp_gen (fun W => K.At W w.heap.size 54 #[.slice A xs.length c, .int .i64 t] ∧ Below w.heap.size w W) ⟨(by refine K.At.cast (by repeat (first | (with_reducible refine K.At.new' _ _ _ _ (by first | rfl | (simp; done) | omega)) | (with_reducible apply K.At.set) | (with_reducible apply K.At.alloc) | (with_reducible apply K.At.drewN) | (with_reducible apply K.At.drew) | (with_reducible apply K.At.far) | omega | (simp <;> omega))) ?_; rfl), (by repeat (first | (with_reducible exact Below.refl _ _) | (with_reducible refine K.b_bel ?_ (by assumption)) | (with_reducible refine K.b_alloc ?_ _) | (with_reducible refine K.b_drewN ?_ _) | (with_reducible refine K.b_drew ?_) | (with_reducible refine K.b_set ?_ (by first | omega | (simp <;> omega)) _) | (with_reducible refine K.b_only ?_ (by assumption) (by first | omega | (simp <;> omega)))))⟩ ?_
      rintro W1 ⟨hH, hb1⟩
      have Hb1 := K.H.mk hb1
      obtain ⟨hc5, hf5, hl5⟩ := K.At.facts hH
      clear hb1 hl2
      have hx0 : xs = [] := by
        have : xs.length = 0 := by simpa using hz
        exact List.eq_nil_of_length_eq_zero this
      subst hx0
      clear hz
      go_loop [3, 4] (fun s i => i = .int .i64 0 ∧ s = .int .i64 0) (fun _ i => 0)
      case atStart => exact ⟨rfl, rfl⟩
      case round =>
        obtain ⟨rfl, rfl⟩ := hrel
        by_cases ht : (0 : Int) = t
        · have e : eCk [] t = 0 := ck_0 ⟨Hlen.out, rfl, ht, by omega⟩
          have E := K.H.mk e
          have d1 : ((0 : Int) != t) = false := by simp [ht]
          clear e ht
          go_wp2
          go_ret
          exact ⟨(by rw [E.out]; try rfl), Hb1.out⟩
        · have hd : ((0 : Int) != t) = true := by simpa using ht
          have E := K.H.mk (ck_9 (xs := []) (t := t) (fun hh => ht hh.2.2.1))
          clear ht
          go_wp2
          go_ret
          exact ⟨(by rw [E.out]; try rfl), Hb1.out⟩
    · have hl1 := hl2 hz
      clear hl2
      go_enter Try.func43, Try.ntmps43
      go_wp2
      refine K.wp_gen (fun W => K.At W w.heap.size 54 #[.slice A xs.length c, .int .i64 t] ∧ Below w.heap.size w W) ⟨(by refine K.At.cast (by repeat (first | (with_reducible refine K.At.new' _ _ _ _ (by first | rfl | (simp; done) | omega)) | (with_reducible apply K.At.set) | (with_reducible apply K.At.alloc) | (with_reducible apply K.At.drewN) | (with_reducible apply K.At.drew) | (with_reducible apply K.At.far) | omega | (simp <;> omega))) ?_; rfl), (by repeat (first | (with_reducible exact Below.refl _ _) | (with_reducible refine K.b_bel ?_ (by assumption)) | (with_reducible refine K.b_alloc ?_ _) | (with_reducible refine K.b_drewN ?_ _) | (with_reducible refine K.b_drew ?_) | (with_reducible refine K.b_set ?_ (by first | omega | (simp <;> omega)) _) | (with_reducible refine K.b_only ?_ (by assumption) (by first | omega | (simp <;> omega)))))⟩ ?_
      rintro W1 ⟨hH, hb1⟩
      have Hb1 := K.H.mk hb1
      obtain ⟨hc5, hf5, hl5⟩ := K.At.facts hH
      clear hb1 hz hl1
      go_loop [3, 4] (fun s i => ∃ k : Nat, k ≤ xs.length ∧ i = .int .i64 k ∧ s = .int .i64 (xs.take k).sum ∧ K.H (Sl.anyOf oddc (xs.take k) = false)) (fun _ i => xs.length - (intOf i).toNat)
      case atStart => exact ⟨0, by omega, rfl, rfl, ⟨rfl⟩⟩
      case round =>
        obtain ⟨k, hk, rfl, rfl, Ho⟩ := hrel
        by_cases hlt : k < xs.length
        · obtain ⟨x, hx⟩ : ∃ x, xs[k]? = some x := ⟨_, List.getElem?_eq_getElem hlt⟩
          obtain ⟨b9, off9, rfl, hbl9, hbc9⟩ := Sl.Rds.elem Hr.out (enc := fun n => [.int .i64 n]) (fun _ => rfl) (by omega) hx
          have q9_0 : W1.cell? ⟨b9, off9 + k, none⟩ = some (.int .i64 x) := by
            have := (Hb1.out.cell (p := ⟨b9, off9 + k * 1 + 0, none⟩) hbl9).trans (hbc9 0 (by omega))
            simpa using this
          have hbw9 : b9 < W1.heap.size := Nat.lt_of_lt_of_le hbl9 Hb1.out.size
          have hs := sum_in Ho.out
          rw [List.length_take, Nat.min_eq_left (by omega)] at hs
          have Hx := K.H.mk hx
          have Hst := K.H.mk (sum_take hx)
          clear hx hbc9
          generalize (xs.take k).sum = s at *
          by_cases h1 : x < 0
          · have d1 : decide (x < 0) = true := decide_eq_true h1
            have E := K.H.mk (ck_9 (hok_odd (t := t) Hx.out (by simp [oddc, h1])))
            clear h1
            go_wp2
            go_ret
            exact ⟨(by rw [E.out]; try rfl), Hb1.out⟩
          · have d1 : decide (x < 0) = false := decide_eq_false h1
            by_cases h2 : 1073741824 < x
            · have d2 : decide (1073741824 < x) = true := decide_eq_true h2
              have E := K.H.mk (ck_9 (hok_odd (t := t) Hx.out (by simp [oddc, h2])))
              clear h1 h2
              go_wp2
              go_ret
              exact ⟨(by rw [E.out]; try rfl), Hb1.out⟩
            · have d2 : decide (1073741824 < x) = false := decide_eq_false h2
              have Ho2 := K.H.mk (any_snoc Hx.out Ho.out (by simp [oddc]; omega))
              go_wp2
              go_round
              case rel => exact ⟨k + 1, by omega, by go_num, by rw [Hst.out], Ho2⟩
              case measure => simp [intOf]; omega
        · obtain rfl : k = xs.length := by omega
          rw [List.take_length] at *
          by_cases h1 : xs.sum = t
          · have d1 : (xs.sum != t) = false := by simp [h1]
            by_cases h2 : 1073741824 < xs.sum
            · have d2 : decide (1073741824 < xs.sum) = true := decide_eq_true h2
              have E := K.H.mk (ck_9 (xs := xs) (t := t) (fun hh => by have := hh.2.2.2; omega))
              clear h1 h2
              go_wp2
              go_ret
              exact ⟨(by rw [E.out]; try rfl), Hb1.out⟩
            · have d2 : decide (1073741824 < xs.sum) = false := decide_eq_false h2
              have E := K.H.mk (ck_0 (xs := xs) (t := t) ⟨Hlen.out, Ho.out, h1, by omega⟩)
              clear h1 h2
              go_wp2
              go_ret
              exact ⟨(by rw [E.out]; try rfl), Hb1.out⟩
          · have d1 : (xs.sum != t) = true := by simp [h1]
            have E := K.H.mk (ck_9 (xs := xs) (t := t) (fun hh => h1 hh.2.2.1))
            clear h1
            go_wp2
            go_ret
            exact ⟨(by rw [E.out]; try rfl), Hb1.out⟩
  · have hl0 : ((xs.length : Int) != 0) = true := bne_iff_ne.2 (by omega)
    have hl1 : ((xs.length : Int) != 81) = true := bne_iff_ne.2 (by omega)
    rw [ck_9 (fun hh => hlen hh.1)]
    clear hlen
    go_enter Try.func43, Try.ntmps43
    go_wp2
    go_ret
    exact ⟨rfl, (by repeat (first | (with_reducible exact Below.refl _ _) | (with_reducible refine K.b_bel ?_ (by assumption)) | (with_reducible refine K.b_alloc ?_ _) | (with_reducible refine K.b_drewN ?_ _) | (with_reducible refine K.b_drew ?_) | (with_reducible refine K.b_set ?_ (by first | omega | (simp <;> omega)) _) | (with_reducible refine K.b_only ?_ (by assumption) (by first | omega | (simp <;> omega)))))⟩
set_option maxRecDepth 100000 in
set_option maxHeartbeats 4000000 in
theorem rQuantile_c (xs : List Int) (t m : Int) (A : Option Addr) (n c : Nat) (w : World) (hr : Sl.Rds w 1 A n (xs.flatMap I1)) :
    Calls Try.prog 41 #[.agg #[.slice A n c, .int .i64 t], .int .i64 m] w fun e w' => e = .returned (.tuple #[.int .i64 (oQ xs t m), .int .i64 (eQ xs t m)]) ∧ Below w.heap.size w w' := by
  obtain rfl := hr.length (fun _ => rfl) (by omega)
  have hle := hr.le
  have Hr := K.H.mk hr
  have HC : ∀ W, Below w.heap.size w W → Calls Try.prog 43 #[.agg #[.slice A xs.length c, .int .i64 t]] W fun e w' => e = .returned (.int .i64 (eCk xs t)) ∧ Below W.heap.size W w' := fun W hb => rCheck_c xs t A _ c W (Hr.out.below hb)
  have GC := K.H.mk HC
  clear hr HC
  by_cases h : HOk xs t
  · rw [ck_0 h] at GC
    have ht := hok_in h
    by_cases hm : 1 ≤ m ∧ m ≤ 1000
    · by_cases h0 : t = 0
      · rw [(q_71 h hm h0).1, (q_71 h hm h0).2]
        have ht0 : (t == 0) = true := by simpa using h0
        clear h h0
        go_enter Try.func41, Try.ntmps41
        go_wp2_with (first | (go_at_call 43; (with_reducible refine (GC.out _ (by repeat (first | (with_reducible exact Below.refl _ _) | (with_reducible refine K.b_bel ?_ (by assumption)) | (with_reducible refine K.b_alloc ?_ _) | (with_reducible refine K.b_drewN ?_ _) | (with_reducible refine K.b_drew ?_) | (with_reducible refine K.b_set ?_ (by first | omega | (simp <;> omega)) _) | (with_reducible refine K.b_only ?_ (by assumption) (by first | omega | (simp <;> omega)))))).mono ?_); rintro e W1 ⟨rfl, hb1⟩; obtain ⟨hB1, hC1, hF1, hZ1⟩ := K.bel_facts hb1; clear hb1; have hZZ := hZ1; (try simp at hZZ); have hz1_0 : w.heap.size < W1.heap.size := (by omega); clear hZZ))
        all_goals first | (exfalso; omega) | (go_ret2; exact ⟨rfl, (by repeat (first | (with_reducible exact Below.refl _ _) | (with_reducible refine K.b_bel ?_ (by assumption)) | (with_reducible refine K.b_alloc ?_ _) | (with_reducible refine K.b_drewN ?_ _) | (with_reducible refine K.b_drew ?_) | (with_reducible refine K.b_set ?_ (by first | omega | (simp <;> omega)) _) | (with_reducible refine K.b_only ?_ (by assumption) (by first | omega | (simp <;> omega)))))⟩)
      · have E := K.H.mk (q_0 h hm h0)
        rw [E.out.1]
        have ht0 : (t == 0) = false := by simpa using h0
        have hw := want_in (t := t) hm (by omega)
        have hsum := h.2.2.1
        have hl81 : xs.length ≤ 81 := by have := h.1; omega
        have Ho := K.H.mk h.2.1
        have a : 1 * t ≤ m * t := Int.mul_le_mul_of_nonneg_right hm.1 (by omega)
        have b : m * t ≤ 1000 * t := Int.mul_le_mul_of_nonneg_right hm.2 (by omega)
        have hdv : (m * t + 999).tdiv 1000 = want m t := by rw [Int.tdiv_eq_ediv_of_nonneg (by omega)]; rfl
        clear h h0
        generalize want m t = v at *
        go_enter Try.func41, Try.ntmps41
        go_wp2_with (first | (go_at_call 43; (with_reducible refine (GC.out _ (by repeat (first | (with_reducible exact Below.refl _ _) | (with_reducible refine K.b_bel ?_ (by assumption)) | (with_reducible refine K.b_alloc ?_ _) | (with_reducible refine K.b_drewN ?_ _) | (with_reducible refine K.b_drew ?_) | (with_reducible refine K.b_set ?_ (by first | omega | (simp <;> omega)) _) | (with_reducible refine K.b_only ?_ (by assumption) (by first | omega | (simp <;> omega)))))).mono ?_); rintro e W1 ⟨rfl, hb1⟩; obtain ⟨hB1, hC1, hF1, hZ1⟩ := K.bel_facts hb1; clear hb1; have hZZ := hZ1; (try simp at hZZ); have hz1_0 : w.heap.size < W1.heap.size := (by omega); clear hZZ))
        refine K.wp_gen (fun W => K.At W w.heap.size 54 #[.slice A xs.length c, .int .i64 t] ∧ Below w.heap.size w W) ⟨(by refine K.At.cast (by repeat (first | (with_reducible refine K.At.new' _ _ _ _ (by first | rfl | (simp; done) | omega)) | (with_reducible apply K.At.over hB1) | (with_reducible apply K.At.set) | (with_reducible apply K.At.alloc) | (with_reducible apply K.At.drewN) | (with_reducible apply K.At.drew) | (with_reducible apply K.At.far) | omega | (simp <;> omega))) ?_; rfl), (by repeat (first | (with_reducible exact Below.refl _ _) | (with_reducible refine K.b_bel ?_ (by assumption)) | (with_reducible refine K.b_alloc ?_ _) | (with_reducible refine K.b_drewN ?_ _) | (with_reducible refine K.b_drew ?_) | (with_reducible refine K.b_set ?_ (by first | omega | (simp <;> omega)) _) | (with_reducible refine K.b_only ?_ (by assumption) (by first | omega | (simp <;> omega)))))⟩ ?_
        rintro W2 ⟨hH, hb2⟩
        have Hb2 := K.H.mk hb2
        obtain ⟨hc5, hf5, hl5⟩ := K.At.facts hH
        clear hb2 GC hdv a b
        ((try clear hC1); (try clear hF1); (try clear hZ1); (try clear hc1); (try clear hf1); (try clear hl1); (try clear hB1); (try clear hO1); (try clear hA1); (try clear hz1_0); (try clear hz1_1); (try clear hz1_2); (try clear hz1_3))
        go_loop [7, 8] (fun s i => ∃ k : Nat, k ≤ xs.length ∧ i = .int .i64 k ∧ s = .int .i64 (xs.take k).sum ∧ (xs.take k).sum < v) (fun _ i => xs.length - (intOf i).toNat)
        case atStart => exact ⟨0, by omega, rfl, rfl, by simp; omega⟩
        case round =>
          obtain ⟨k, hk, rfl, rfl, hlv⟩ := hrel
          by_cases hlt : k < xs.length
          · obtain ⟨x, hx⟩ : ∃ x, xs[k]? = some x := ⟨_, List.getElem?_eq_getElem hlt⟩
            obtain ⟨b9, off9, rfl, hbl9, hbc9⟩ := Sl.Rds.elem Hr.out (enc := fun n => [.int .i64 n]) (fun _ => rfl) (by omega) hx
            have q9_0 : W2.cell? ⟨b9, off9 + k, none⟩ = some (.int .i64 x) := by
              have := (Hb2.out.cell (p := ⟨b9, off9 + k * 1 + 0, none⟩) hbl9).trans (hbc9 0 (by omega))
              simpa using this
            have hbw9 : b9 < W2.heap.size := Nat.lt_of_lt_of_le hbl9 Hb2.out.size
            have hs0 := sum_mono Ho.out (j := 0) (k := k) (by omega)
            simp only [List.take_zero, List.sum_nil] at hs0
            have hxo := Sl.anyOf_false Ho.out x (List.mem_of_getElem? hx)
            have hx2 : 0 ≤ x ∧ x ≤ 1073741824 := by simp [oddc] at hxo; omega
            have Hst := K.H.mk (sum_take hx)
            have Hlv := K.H.mk hlv
            by_cases h1 : v ≤ (xs.take k).sum + x
            · have d1 : decide (v ≤ (xs.take k).sum + x) = true := decide_eq_true h1
              have hq := qat_of Ho.out (l := v) (k := k) ⟨hlt, hlv, by rw [Hst.out]; exact h1⟩
              have GT := K.H.mk (fun W => rTop_c k W)
              rw [show eTop k = 0 by unfold eTop; rw [if_pos (by omega)], show oTop k = tpp k by unfold oTop; rw [if_pos (by omega)]] at GT
              have E2 := K.H.mk (show tpp k = oQ xs t m by rw [E.out.2, hq])
              clear hx hbc9 hxo hq h1
              generalize (xs.take k).sum = s at *
              go_wp2_with (first | (go_at_call 40; (with_reducible refine (GT.out _).mono ?_); rintro e W6 ⟨rfl, hb6⟩; obtain ⟨hB6, hC6, hF6, hZ6⟩ := K.bel_facts hb6; clear hb6))
              go_ret2
              exact ⟨by rw [← E2.out]; rfl, (by repeat (first | (with_reducible exact Below.refl _ _) | (with_reducible exact Hb2.out) | (with_reducible refine K.b_bel ?_ (by assumption)) | (with_reducible refine K.b_alloc ?_ _) | (with_reducible refine K.b_drewN ?_ _) | (with_reducible refine K.b_drew ?_) | (with_reducible refine K.b_set ?_ (by first | omega | (simp <;> omega)) _) | (with_reducible refine K.b_only ?_ (by assumption) (by first | omega | (simp <;> omega)))))⟩
            · have d1 : decide (v ≤ (xs.take k).sum + x) = false := decide_eq_false h1
              clear hx hbc9 hxo
              generalize (xs.take k).sum = s at *
              go_wp2
              go_round
              case rel => exact ⟨k + 1, by omega, by go_num, by rw [Hst.out], by rw [Hst.out]; omega⟩
              case measure => simp [intOf]; omega
          · exfalso
            obtain rfl : k = xs.length := by omega
            rw [List.take_length] at hlv
            omega
    · rw [(q_4 h hm).1, (q_4 h hm).2]
      clear h
      go_enter Try.func41, Try.ntmps41
      go_wp2_with (first | (go_at_call 43; (with_reducible refine (GC.out _ (by repeat (first | (with_reducible exact Below.refl _ _) | (with_reducible refine K.b_bel ?_ (by assumption)) | (with_reducible refine K.b_alloc ?_ _) | (with_reducible refine K.b_drewN ?_ _) | (with_reducible refine K.b_drew ?_) | (with_reducible refine K.b_set ?_ (by first | omega | (simp <;> omega)) _) | (with_reducible refine K.b_only ?_ (by assumption) (by first | omega | (simp <;> omega)))))).mono ?_); rintro e W1 ⟨rfl, hb1⟩; obtain ⟨hB1, hC1, hF1, hZ1⟩ := K.bel_facts hb1; clear hb1; have hZZ := hZ1; (try simp at hZZ); have hz1_0 : w.heap.size < W1.heap.size := (by omega); clear hZZ))
      all_goals first | (exfalso; omega) | (go_ret2; exact ⟨rfl, (by repeat (first | (with_reducible exact Below.refl _ _) | (with_reducible refine K.b_bel ?_ (by assumption)) | (with_reducible refine K.b_alloc ?_ _) | (with_reducible refine K.b_drewN ?_ _) | (with_reducible refine K.b_drew ?_) | (with_reducible refine K.b_set ?_ (by first | omega | (simp <;> omega)) _) | (with_reducible refine K.b_only ?_ (by assumption) (by first | omega | (simp <;> omega)))))⟩)
  · rw [ck_9 h] at GC
    rw [(q_9 h).1, (q_9 h).2]
    clear h
    go_enter Try.func41, Try.ntmps41
    go_wp2_with (first | (go_at_call 43; (with_reducible refine (GC.out _ (by repeat (first | (with_reducible exact Below.refl _ _) | (with_reducible refine K.b_bel ?_ (by assumption)) | (with_reducible refine K.b_alloc ?_ _) | (with_reducible refine K.b_drewN ?_ _) | (with_reducible refine K.b_drew ?_) | (with_reducible refine K.b_set ?_ (by first | omega | (simp <;> omega)) _) | (with_reducible refine K.b_only ?_ (by assumption) (by first | omega | (simp <;> omega)))))).mono ?_); rintro e W1 ⟨rfl, hb1⟩; obtain ⟨hB1, hC1, hF1, hZ1⟩ := K.bel_facts hb1; clear hb1; have hZZ := hZ1; (try simp at hZZ); have hz1_0 : w.heap.size < W1.heap.size := (by omega); clear hZZ))
    all_goals first | (exfalso; omega) | (go_ret2; exact ⟨rfl, (by repeat (first | (with_reducible exact Below.refl _ _) | (with_reducible refine K.b_bel ?_ (by assumption)) | (with_reducible refine K.b_alloc ?_ _) | (with_reducible refine K.b_drewN ?_ _) | (with_reducible refine K.b_drew ?_) | (with_reducible refine K.b_set ?_ (by first | omega | (simp <;> omega)) _) | (with_reducible refine K.b_only ?_ (by assumption) (by first | omega | (simp <;> omega)))))⟩)
end Go.Proofs.Ytimdfnhagjlkoaa.Hst
