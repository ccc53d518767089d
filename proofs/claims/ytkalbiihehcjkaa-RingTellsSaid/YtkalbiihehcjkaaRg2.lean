/- Ring: the order of points; what stands behind. -/
import Derived.Test.YtkalbiihehcjkaaRg1
import Derived.Test.YtkalbiihehcjkaaSl
import Derived.Test.YtkalbiihehcjkaaMy
set_option linter.unusedVariables false
namespace Go.Proofs.Ytkalbiihehcjkaa.Rg
open Go.RowKit Go.Proofs.Ytkalbiihehcjkaa
set_option linter.unusedSimpArgs false
theorem nan_i64_c (a : Int) (w : World) : Calls Try.prog 70 #[.int .i64 a] w fun e w' => e = .returned (.bool false) ∧ w' = w := by
  have d1 : (a != a) = false := by simp
  go_enter Try.func70, Try.ntmps70
  go_wp2
  go_ret
  exact ⟨rfl, rfl⟩
set_option maxHeartbeats 2000000 in
theorem cmp_i64_c (a b : Int) (w : World) : Calls Try.prog 48 #[.int .i64 a, .int .i64 b] w fun e w' => e = .returned (.int .i64 (cmpI a b)) ∧ w' = w := by
  obtain ⟨r, hr⟩ : ∃ r, r = cmpI a b := ⟨_, rfl⟩
  rw [← hr]
  unfold cmpI at hr
  by_cases h1 : a < b
  · rw [if_pos h1] at hr
    subst hr
    have d1 : decide (a < b) = true := decide_eq_true h1
    go_enter Try.func48, Try.ntmps48
    go_wp2_with (first | (go_at_call 70; (with_reducible refine (nan_i64_c _ _).mono ?_); rintro e w' ⟨rfl, hw'⟩; have hw'2 := Eq.symm hw'; clear hw'; subst hw'2))
    go_ret
    exact ⟨rfl, rfl⟩
  · rw [if_neg h1] at hr
    have d1 : decide (a < b) = false := decide_eq_false h1
    by_cases h2 : b < a
    · rw [if_pos h2] at hr
      subst hr
      have d2 : decide (b < a) = true := decide_eq_true h2
      clear h1 h2
      go_enter Try.func48, Try.ntmps48
      go_wp2_with (first | (go_at_call 70; (with_reducible refine (nan_i64_c _ _).mono ?_); rintro e w' ⟨rfl, hw'⟩; have hw'2 := Eq.symm hw'; clear hw'; subst hw'2))
      go_ret
      exact ⟨rfl, rfl⟩
    · rw [if_neg h2] at hr
      subst hr
      have d2 : decide (b < a) = false := decide_eq_false h2
      clear h1 h2
      go_enter Try.func48, Try.ntmps48
      go_wp2_with (first | (go_at_call 70; (with_reducible refine (nan_i64_c _ _).mono ?_); rintro e w' ⟨rfl, hw'⟩; have hw'2 := Eq.symm hw'; clear hw'; subst hw'2))
      go_ret
      exact ⟨rfl, rfl⟩
theorem nan_u64_c (a : Int) (w : World) : Calls Try.prog 69 #[.int .u64 a] w fun e w' => e = .returned (.bool false) ∧ w' = w := by
  have d1 : (a != a) = false := by simp
  go_enter Try.func69, Try.ntmps69
  go_wp2
  go_ret
  exact ⟨rfl, rfl⟩
set_option maxHeartbeats 2000000 in
theorem cmp_u64_c (a b : Int) (w : World) : Calls Try.prog 47 #[.int .u64 a, .int .u64 b] w fun e w' => e = .returned (.int .i64 (cmpI a b)) ∧ w' = w := by
  obtain ⟨r, hr⟩ : ∃ r, r = cmpI a b := ⟨_, rfl⟩
  rw [← hr]
  unfold cmpI at hr
  by_cases h1 : a < b
  · rw [if_pos h1] at hr
    subst hr
    have d1 : decide (a < b) = true := decide_eq_true h1
    go_enter Try.func47, Try.ntmps47
    go_wp2_with (first | (go_at_call 69; (with_reducible refine (nan_u64_c _ _).mono ?_); rintro e w' ⟨rfl, hw'⟩; have hw'2 := Eq.symm hw'; clear hw'; subst hw'2))
    go_ret
    exact ⟨rfl, rfl⟩
  · rw [if_neg h1] at hr
    have d1 : decide (a < b) = false := decide_eq_false h1
    by_cases h2 : b < a
    · rw [if_pos h2] at hr
      subst hr
      have d2 : decide (b < a) = true := decide_eq_true h2
      clear h1 h2
      go_enter Try.func47, Try.ntmps47
      go_wp2_with (first | (go_at_call 69; (with_reducible refine (nan_u64_c _ _).mono ?_); rintro e w' ⟨rfl, hw'⟩; have hw'2 := Eq.symm hw'; clear hw'; subst hw'2))
      go_ret
      exact ⟨rfl, rfl⟩
    · rw [if_neg h2] at hr
      subst hr
      have d2 : decide (b < a) = false := decide_eq_false h2
      clear h1 h2
      go_enter Try.func47, Try.ntmps47
      go_wp2_with (first | (go_at_call 69; (with_reducible refine (nan_u64_c _ _).mono ?_); rintro e w' ⟨rfl, hw'⟩; have hw'2 := Eq.symm hw'; clear hw'; subst hw'2))
      go_ret
      exact ⟨rfl, rfl⟩
set_option maxHeartbeats 2000000 in
theorem or2_c (a b : Int) (g : Nat) (w : World) (hA : K.At w g 3 #[.int .i64 a, .int .i64 b]) : Calls Try.prog 46 #[.slice (some ⟨g, 0, none⟩) 2 2] w fun e w' => e = .returned (.int .i64 (if a = 0 then b else a)) ∧ w' = w := by
  have hlt := hA.lt
  have hc0 : w.cell? ⟨g, 0, none⟩ = some (.int .i64 a) := by rw [hA.cell]; rfl
  have hc1 : w.cell? ⟨g, 1, none⟩ = some (.int .i64 b) := by rw [hA.cell]; rfl
  obtain ⟨r, hr⟩ : ∃ r, r = if a = 0 then b else a := ⟨_, rfl⟩
  rw [← hr]
  have HR := K.H.mk hr
  clear hr hA
  go_enter Try.func46, Try.ntmps46
  go_wp2
  go_loop [8] (fun i => ∃ k : Nat, i = .int .i64 k ∧ K.H (k = 0 ∨ (k = 1 ∧ a = 0) ∨ (k = 2 ∧ a = 0 ∧ b = 0))) (fun i => 2 - (intOf i).toNat)
  case atStart => exact ⟨0, rfl, ⟨.inl rfl⟩⟩
  case round =>
    obtain ⟨k, rfl, HK⟩ := hrel
    rcases HK.out with rfl | ⟨rfl, h0⟩ | ⟨rfl, h0, h1⟩
    · cases hd : (a != 0)
      · have h0 : a = 0 := by simpa using hd
        have HN := K.H.mk h0
        clear h0 HK
        go_wp2
        go_round
        case rel => exact ⟨1, rfl, ⟨.inr (.inl ⟨rfl, HN.out⟩)⟩⟩
        case measure => simp [intOf]
      · have h0 : a ≠ 0 := by simpa using hd
        have HN := K.H.mk (show r = a by rw [HR.out, if_neg h0])
        clear h0 HK
        go_wp2
        go_ret
        exact ⟨by rw [HN.out]; rfl, rfl⟩
    · cases hd : (b != 0)
      · have h1 : b = 0 := by simpa using hd
        have HN := K.H.mk (show a = 0 ∧ b = 0 from ⟨h0, h1⟩)
        clear h0 h1 HK
        go_wp2
        go_round
        case rel => exact ⟨2, rfl, ⟨.inr (.inr ⟨rfl, HN.out⟩)⟩⟩
        case measure => simp [intOf]
      · have HN := K.H.mk (show r = b by rw [HR.out, if_pos h0])
        clear h0 HK
        go_wp2
        go_ret
        exact ⟨by rw [HN.out]; rfl, rfl⟩
    · have HN := K.H.mk (show r = 0 by rw [HR.out, if_pos h0, h1])
      clear h0 h1 HK
      go_wp2
      go_ret
      exact ⟨by rw [HN.out]; rfl, rfl⟩
set_option maxRecDepth 100000 in
set_option maxHeartbeats 2000000 in
theorem order_c (p q : Pt) (w : World) : Calls Try.prog 29 #[p.a, q.a] w fun e w' => e = .returned (.int .i64 (p.cmp q)) ∧ Below w.heap.size w w' := by
  obtain ⟨c1, hc1⟩ : ∃ c, c = cmpI p.h q.h := ⟨_, rfl⟩
  obtain ⟨c2, hc2⟩ : ∃ c, c = cmpI p.i q.i := ⟨_, rfl⟩
  have HP := K.H.mk (show p.cmp q = if c1 = 0 then c2 else c1 by unfold Pt.cmp; rw [hc1, hc2])
  have G1 := K.H.mk (fun W => cmp_u64_c p.h q.h W)
  have G2 := K.H.mk (fun W => cmp_i64_c p.i q.i W)
  rw [← hc1] at G1
  rw [← hc2] at G2
  have GO := K.H.mk (fun (W : World) (g : Nat) (hA : K.At W g 3 #[.int .i64 c1, .int .i64 c2]) => or2_c c1 c2 g W hA)
  rw [HP.out]
  generalize (if c1 = 0 then c2 else c1) = r at *
  clear hc1 hc2 HP
  go_enter Try.func29, Try.ntmps29
  go_wp2
  refine K.wp_region_mix none (by kernel_rfl) (by kernel_rfl) ?_
  intro W9 hR9
  have hB9 := K.InR.bel hR9
  have hZ9 := K.inr_size hR9
  repeat (any_goals (first | refine K.wpMix_skip2 (by rfl) (by rfl) ?_ | (refine K.wpMix_skip (by rfl) ?_; go_simp) | (refine K.wpMix_want (by rfl) (by rfl) (fun Kq hK => ?_); go_simp; refine hK _ _ ?_; clear hK Kq) | (refine K.wpMix_ser (by rfl) (by rfl) (fun Kq hK => ?_); first | (fail; refine ⟨(by repeat (first | (with_reducible exact hR9) | (with_reducible refine K.inr_bel ?_ (by assumption)) | (with_reducible refine K.inr_alloc ?_ _) | (with_reducible refine K.inr_row ?_ (by assumption)) | (with_reducible refine K.inr_new ?_ (by first | omega | (simp <;> omega)) _))), hK _ _ ?_⟩; clear hK Kq) | (go_simp; first | (refine ⟨(by repeat (first | (with_reducible exact hR9) | (with_reducible refine K.inr_bel ?_ (by assumption)) | (with_reducible refine K.inr_alloc ?_ _) | (with_reducible refine K.inr_row ?_ (by assumption)) | (with_reducible refine K.inr_new ?_ (by first | omega | (simp <;> omega)) _))), hK _ _ ?_⟩; clear hK Kq) | ((first | (go_at_call 47; (with_reducible refine (G1.out _).mono ?_); rintro e w' ⟨rfl, hw'⟩; have hw'2 := Eq.symm hw'; clear hw'; subst hw'2) | (go_at_call 48; (with_reducible refine (G2.out _).mono ?_); rintro e w' ⟨rfl, hw'⟩; have hw'2 := Eq.symm hw'; clear hw'; subst hw'2) | (go_at_call 46; (with_reducible refine (GO.out _ _ (K.At.new' _ _ _ _ (by simp))).mono ?_); rintro e w' ⟨rfl, hw'⟩; have hw'2 := Eq.symm hw'; clear hw'; subst hw'2)); refine ⟨_, rfl, (by repeat (first | (with_reducible exact hR9) | (with_reducible refine K.inr_bel ?_ (by assumption)) | (with_reducible refine K.inr_alloc ?_ _) | (with_reducible refine K.inr_row ?_ (by assumption)) | (with_reducible refine K.inr_new ?_ (by first | omega | (simp <;> omega)) _))), hK _ _ ?_⟩; clear hK Kq)))))
  all_goals refine K.wpMix_nil ?_
  all_goals go_wp2
  go_ret
  exact ⟨rfl, (by repeat (first | (with_reducible exact Below.refl _ _) | (with_reducible refine K.b_bel ?_ (by assumption)) | (with_reducible refine K.b_alloc ?_ _) | (with_reducible refine K.b_drewN ?_ _) | (with_reducible refine K.b_drew ?_) | (with_reducible refine K.b_set ?_ (by first | omega | (simp <;> omega)) _) | (with_reducible refine K.b_only ?_ (by assumption) (by first | omega | (simp <;> omega)))))⟩
set_option maxRecDepth 100000 in
set_option maxHeartbeats 2000000 in
theorem behind_c (p q : Pt) (w : World) : Calls Try.prog 33 #[p.a, q.a] w fun e w' => e = .returned (.bool (p.beh q)) ∧ Below w.heap.size w w' := by
  obtain ⟨r, hr⟩ : ∃ r, r = p.beh q := ⟨_, rfl⟩
  rw [← hr]
  unfold Pt.beh at hr
  by_cases h1 : q.h < p.h
  · have d1 : decide (q.h < p.h) = true := decide_eq_true h1
    rw [decide_eq_true (.inl h1)] at hr
    subst hr
    clear h1
    go_enter Try.func33, Try.ntmps33
    go_wp2
    go_ret
    exact ⟨rfl, (by repeat (first | (with_reducible exact Below.refl _ _) | (with_reducible refine K.b_bel ?_ (by assumption)) | (with_reducible refine K.b_alloc ?_ _) | (with_reducible refine K.b_drewN ?_ _) | (with_reducible refine K.b_drew ?_) | (with_reducible refine K.b_set ?_ (by first | omega | (simp <;> omega)) _) | (with_reducible refine K.b_only ?_ (by assumption) (by first | omega | (simp <;> omega)))))⟩
  · have d1 : decide (q.h < p.h) = false := decide_eq_false h1
    by_cases h2 : p.h = q.h
    · have d2 : (p.h == q.h) = true := by simpa using h2
      by_cases h3 : q.i < p.i
      · have d3 : decide (q.i < p.i) = true := decide_eq_true h3
        rw [decide_eq_true (.inr ⟨h2, h3⟩)] at hr
        subst hr
        clear h1 h2 h3
        go_enter Try.func33, Try.ntmps33
        go_wp2
        go_ret
        exact ⟨rfl, (by repeat (first | (with_reducible exact Below.refl _ _) | (with_reducible refine K.b_bel ?_ (by assumption)) | (with_reducible refine K.b_alloc ?_ _) | (with_reducible refine K.b_drewN ?_ _) | (with_reducible refine K.b_drew ?_) | (with_reducible refine K.b_set ?_ (by first | omega | (simp <;> omega)) _) | (with_reducible refine K.b_only ?_ (by assumption) (by first | omega | (simp <;> omega)))))⟩
      · have d3 : decide (q.i < p.i) = false := decide_eq_false h3
        rw [decide_eq_false (by omega)] at hr
        subst hr
        clear h1 h2 h3
        go_enter Try.func33, Try.ntmps33
        go_wp2
        go_ret
        exact ⟨rfl, (by repeat (first | (with_reducible exact Below.refl _ _) | (with_reducible refine K.b_bel ?_ (by assumption)) | (with_reducible refine K.b_alloc ?_ _) | (with_reducible refine K.b_drewN ?_ _) | (with_reducible refine K.b_drew ?_) | (with_reducible refine K.b_set ?_ (by first | omega | (simp <;> omega)) _) | (with_reducible refine K.b_only ?_ (by assumption) (by first | omega | (simp <;> omega)))))⟩
    · have d2 : (p.h == q.h) = false := by simpa using h2
      rw [decide_eq_false (by omega)] at hr
      subst hr
      clear h1 h2
      go_enter Try.func33, Try.ntmps33
      go_wp2
      go_ret
      exact ⟨rfl, (by repeat (first | (with_reducible exact Below.refl _ _) | (with_reducible refine K.b_bel ?_ (by assumption)) | (with_reducible refine K.b_alloc ?_ _) | (with_reducible refine K.b_drewN ?_ _) | (with_reducible refine K.b_drew ?_) | (with_reducible refine K.b_set ?_ (by first | omega | (simp <;> omega)) _) | (with_reducible refine K.b_only ?_ (by assumption) (by first | omega | (simp <;> omega)))))⟩
end Go.Proofs.Ytkalbiihehcjkaa.Rg
