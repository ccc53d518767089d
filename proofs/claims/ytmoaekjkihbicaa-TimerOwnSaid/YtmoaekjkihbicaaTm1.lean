/- Timer: the order of timers, plain and walked; which are odd. -/
import Derived.Test.YtmoaekjkihbicaaSl
import Derived.Test.YtmoaekjkihbicaaMy
import Derived.Test.YtmoaekjkihbicaaOpn
set_option linter.unusedVariables false
namespace Go.Proofs.Ytmoaekjkihbicaa.Tm
open Go.RowKit Go.Proofs.Ytmoaekjkihbicaa
attribute [local go_sem] K.max2_int K.min2_int K.max_two K.min_two K.max_three K.min_three
set_option linter.unusedSimpArgs false
structure Tm where
  t : Int
  id : Int
def Tm.cs (x : Tm) : List Value := [.int .i64 x.t, .int .i64 x.id]
abbrev Tm.a (x : Tm) : Value := .agg #[.int .i64 x.t, .int .i64 x.id]
theorem Tm.cs_len (x : Tm) : x.cs.length = 2 := rfl
def cmpI (a b : Int) : Int := if a < b then -1 else if b < a then 1 else 0
def Tm.cmp (a b : Tm) : Int := if cmpI a.t b.t = 0 then cmpI a.id b.id else cmpI a.t b.t
/-- Is a ahead of b? -/
def Tm.lt (a b : Tm) : Bool := decide (a.t < b.t) || (decide (a.t = b.t) && decide (a.id < b.id))
theorem cmp_lt (a b : Tm) : decide (a.cmp b < 0) = a.lt b := by
  rw [Bool.eq_iff_iff]
  unfold Tm.lt Tm.cmp cmpI
  simp only [decide_eq_true_eq, Bool.or_eq_true, Bool.and_eq_true]
  (repeat' split) <;> omega
def Tm.odd (x : Tm) : Bool := decide (K.mn x.t x.id < 0) || decide (1073741824 < K.mx x.t x.id)
theorem odd_f {x : Tm} (h : x.odd = false) : 0 ≤ x.t ∧ x.t ≤ 1073741824 ∧ 0 ≤ x.id ∧ x.id ≤ 1073741824 := by
  unfold Tm.odd K.mn K.mx at h
  simp only [Bool.or_eq_false_iff, decide_eq_false_iff_not] at h
  (repeat' split at h) <;> omega
theorem nan_i64_c (a : Int) (w : World) : Calls Try.prog 55 #[.int .i64 a] w fun e w' => e = .returned (.bool false) ∧ w' = w := by
  have d1 : (a != a) = false := by simp
  go_enter Try.func55, Try.ntmps55
  go_wp2
  go_ret
  exact ⟨rfl, rfl⟩
set_option maxHeartbeats 2000000 in
theorem cmp_i64_c (a b : Int) (w : World) : Calls Try.prog 51 #[.int .i64 a, .int .i64 b] w fun e w' => e = .returned (.int .i64 (cmpI a b)) ∧ w' = w := by
  obtain ⟨r, hr⟩ : ∃ r, r = cmpI a b := ⟨_, rfl⟩
  rw [← hr]
  unfold cmpI at hr
  by_cases h1 : a < b
  · rw [if_pos h1] at hr
    subst hr
    have d1 : decide (a < b) = true := decide_eq_true h1
    go_enter Try.func51, Try.ntmps51
    go_wp2_with (first | (go_at_call 55; (with_reducible refine (nan_i64_c _ _).mono ?_); rintro e w' ⟨rfl, hw'⟩; have hw'2 := Eq.symm hw'; clear hw'; subst hw'2))
    go_ret
    exact ⟨rfl, rfl⟩
  · rw [if_neg h1] at hr
    have d1 : decide (a < b) = false := decide_eq_false h1
    by_cases h2 : b < a
    · rw [if_pos h2] at hr
      subst hr
      have d2 : decide (b < a) = true := decide_eq_true h2
      clear h1 h2
      go_enter Try.func51, Try.ntmps51
      go_wp2_with (first | (go_at_call 55; (with_reducible refine (nan_i64_c _ _).mono ?_); rintro e w' ⟨rfl, hw'⟩; have hw'2 := Eq.symm hw'; clear hw'; subst hw'2))
      go_ret
      exact ⟨rfl, rfl⟩
    · rw [if_neg h2] at hr
      subst hr
      have d2 : decide (b < a) = false := decide_eq_false h2
      clear h1 h2
      go_enter Try.func51, Try.ntmps51
      go_wp2_with (first | (go_at_call 55; (with_reducible refine (nan_i64_c _ _).mono ?_); rintro e w' ⟨rfl, hw'⟩; have hw'2 := Eq.symm hw'; clear hw'; subst hw'2))
      go_ret
      exact ⟨rfl, rfl⟩
set_option maxHeartbeats 2000000 in
theorem or2_c (a b : Int) (g : Nat) (w : World) (hA : K.At w g 3 #[.int .i64 a, .int .i64 b]) : Calls Try.prog 50 #[.slice (some ⟨g, 0, none⟩) 2 2] w fun e w' => e = .returned (.int .i64 (if a = 0 then b else a)) ∧ w' = w := by
  have hlt := hA.lt
  have hc0 : w.cell? ⟨g, 0, none⟩ = some (.int .i64 a) := by rw [hA.cell]; rfl
  have hc1 : w.cell? ⟨g, 1, none⟩ = some (.int .i64 b) := by rw [hA.cell]; rfl
  obtain ⟨r, hr⟩ : ∃ r, r = if a = 0 then b else a := ⟨_, rfl⟩
  rw [← hr]
  have HR := K.H.mk hr
  clear hr hA
  go_enter Try.func50, Try.ntmps50
  go_wp2
  go_loop [8] (fun i => ∃ k : Nat, i = .int .i64 k ∧ K.H (k = 0 ∨ (k = 1 ∧ a = 0) ∨ (k = 2 ∧ a = 0 ∧ b = 0))) (fun i => 2 - (intOf i).toNat)
  case atStart => exact ⟨0, rfl, ⟨.inl rfl⟩⟩
  case round =>
    obtain ⟨k, rfl, HK⟩ := hrel
    rcases HK.out with rfl | ⟨rfl, h0⟩ | ⟨rfl, h0, h1⟩
    · cases hd : (a != 0)
      · have h0 : a = 0 := by simpa using hd
        have HN := K.H.mk h0
        clear h0 HK
        go_wp2
        go_round
        case rel => exact ⟨1, rfl, ⟨.inr (.inl ⟨rfl, HN.out⟩)⟩⟩
        case measure => simp [intOf]
      · have h0 : a ≠ 0 := by simpa using hd
        have HN := K.H.mk (show r = a by rw [HR.out, if_neg h0])
        clear h0 HK
        go_wp2
        go_ret
        exact ⟨by rw [HN.out]; rfl, rfl⟩
    · cases hd : (b != 0)
      · have h1 : b = 0 := by simpa using hd
        have HN := K.H.mk (show a = 0 ∧ b = 0 from ⟨h0, h1⟩)
        clear h0 h1 HK
        go_wp2
        go_round
        case rel => exact ⟨2, rfl, ⟨.inr (.inr ⟨rfl, HN.out⟩)⟩⟩
        case measure => simp [intOf]
      · have HN := K.H.mk (show r = b by rw [HR.out, if_pos h0])
        clear h0 HK
        go_wp2
        go_ret
        exact ⟨by rw [HN.out]; rfl, rfl⟩
    · have HN := K.H.mk (show r = 0 by rw [HR.out, if_pos h0, h1])
      clear h0 h1 HK
      go_wp2
      go_ret
      exact ⟨by rw [HN.out]; rfl, rfl⟩
set_option maxRecDepth 100000 in
set_option maxHeartbeats 2000000 in
theorem order_c (p q : Tm) (w : World) : Calls Try.prog 38 #[p.a, q.a] w fun e w' => e = .returned (.int .i64 (p.cmp q)) ∧ Below w.heap.size w w' := by
  obtain ⟨c1, hc1⟩ : ∃ c, c = cmpI p.t q.t := ⟨_, rfl⟩
  obtain ⟨c2, hc2⟩ : ∃ c, c = cmpI p.id q.id := ⟨_, rfl⟩
  have HP := K.H.mk (show p.cmp q = if c1 = 0 then c2 else c1 by unfold Tm.cmp; rw [hc1, hc2])
  have G1 := K.H.mk (fun W => cmp_i64_c p.t q.t W)
  have G2 := K.H.mk (fun W => cmp_i64_c p.id q.id W)
  rw [← hc1] at G1
  rw [← hc2] at G2
  have GO := K.H.mk (fun (W : World) (g : Nat) (hA : K.At W g 3 #[.int .i64 c1, .int .i64 c2]) => or2_c c1 c2 g W hA)
  rw [HP.out]
  generalize (if c1 = 0 then c2 else c1) = r at *
  clear hc1 hc2 HP
  go_enter Try.func38, Try.ntmps38
  go_wp2
  refine K.wp_region_mix none (by kernel_rfl) (by kernel_rfl) ?_
  intro W9 hR9
  have hB9 := K.InR.bel hR9
  have hZ9 := K.inr_size hR9
  repeat (any_goals (first | refine K.wpMix_skip2 (by rfl) (by rfl) ?_ | (refine K.wpMix_skip (by rfl) ?_; go_simp) | (refine K.wpMix_want (by rfl) (by rfl) (fun Kq hK => ?_); go_simp; refine hK _ _ ?_; clear hK Kq) | (refine K.wpMix_ser (by rfl) (by rfl) (fun Kq hK => ?_); first | (fail; refine ⟨(by repeat (first | (with_reducible exact hR9) | (with_reducible refine K.inr_bel ?_ (by assumption)) | (with_reducible refine K.inr_alloc ?_ _) | (with_reducible refine K.inr_row ?_ (by assumption)) | (with_reducible refine K.inr_new ?_ (by first | omega | (simp <;> omega)) _))), hK _ _ ?_⟩; clear hK Kq) | (go_simp; first | (refine ⟨(by repeat (first | (with_reducible exact hR9) | (with_reducible refine K.inr_bel ?_ (by assumption)) | (with_reducible refine K.inr_alloc ?_ _) | (with_reducible refine K.inr_row ?_ (by assumption)) | (with_reducible refine K.inr_new ?_ (by first | omega | (simp <;> omega)) _))), hK _ _ ?_⟩; clear hK Kq) | ((first | (go_at_call 51; (with_reducible refine (G1.out _).mono ?_); rintro e w' ⟨rfl, hw'⟩; have hw'2 := Eq.symm hw'; clear hw'; subst hw'2) | (go_at_call 51; (with_reducible refine (G2.out _).mono ?_); rintro e w' ⟨rfl, hw'⟩; have hw'2 := Eq.symm hw'; clear hw'; subst hw'2) | (go_at_call 50; (with_reducible refine (GO.out _ _ (K.At.new' _ _ _ _ (by simp))).mono ?_); rintro e w' ⟨rfl, hw'⟩; have hw'2 := Eq.symm hw'; clear hw'; subst hw'2)); refine ⟨_, rfl, (by repeat (first | (with_reducible exact hR9) | (with_reducible refine K.inr_bel ?_ (by assumption)) | (with_reducible refine K.inr_alloc ?_ _) | (with_reducible refine K.inr_row ?_ (by assumption)) | (with_reducible refine K.inr_new ?_ (by first | omega | (simp <;> omega)) _))), hK _ _ ?_⟩; clear hK Kq)))))
  all_goals refine K.wpMix_nil ?_
  all_goals go_wp2
  go_ret
  exact ⟨rfl, (by repeat (first | (with_reducible exact Below.refl _ _) | (with_reducible refine K.b_bel ?_ (by assumption)) | (with_reducible refine K.b_alloc ?_ _) | (with_reducible refine K.b_drewN ?_ _) | (with_reducible refine K.b_drew ?_) | (with_reducible refine K.b_set ?_ (by first | omega | (simp <;> omega)) _) | (with_reducible refine K.b_only ?_ (by assumption) (by first | omega | (simp <;> omega)))))⟩
set_option maxHeartbeats 2000000 in
theorem odd_c (x : Tm) (w : World) : Calls Try.prog 28 #[x.a] w fun e w' => e = .returned (.bool x.odd) ∧ Below w.heap.size w w' := by
  obtain ⟨r, hr⟩ : ∃ r, r = x.odd := ⟨_, rfl⟩
  rw [← hr]
  unfold Tm.odd at hr
  cases d1 : decide (K.mn x.t x.id < 0) <;> cases d2 : decide (1073741824 < K.mx x.t x.id)
  all_goals
    rw [d1, d2] at hr
    simp only [Bool.or_false, Bool.or_true, Bool.false_or, Bool.true_or] at hr
    subst hr
    go_enter Try.func28, Try.ntmps28
    go_wp2
    go_ret
    exact ⟨rfl, (by repeat (first | (with_reducible exact Below.refl _ _) | (with_reducible refine K.b_bel ?_ (by assumption)) | (with_reducible refine K.b_alloc ?_ _) | (with_reducible refine K.b_drewN ?_ _) | (with_reducible refine K.b_drew ?_) | (with_reducible refine K.b_set ?_ (by first | omega | (simp <;> omega)) _) | (with_reducible refine K.b_only ?_ (by assumption) (by first | omega | (simp <;> omega)))))⟩
set_option maxHeartbeats 1000000 in
theorem ixOdd_c (xs : List Tm) (A : Option Addr) (n c : Nat) (w : World) (hr : Sl.Rds w 2 A n (xs.flatMap Tm.cs)) :
    Calls Try.prog 46 #[.slice A n c, .func (.func 28) #[] #[]] w fun e w' => e = .returned (.int .i64 (Sl.idx (Tm.odd) xs)) ∧ Below w.heap.size w w' := by
  obtain rfl := hr.length (fun _ => rfl) (by omega)
  have hle := hr.le
  have Hr := K.H.mk hr
  clear hr
  
  go_enter Try.func46, Try.ntmps46
  go_wp2
  go_loopw [8] (fun i wr => ∃ k : Nat, k ≤ xs.length ∧ i = .int .i64 k ∧ K.H (∀ j y, j < k → xs[j]? = some y → (Tm.odd) y = false) ∧ K.H (Below w.heap.size w wr)) (fun i _ => xs.length - (intOf i).toNat)
  case atStart => exact ⟨0, by omega, rfl, ⟨fun j y h => by omega⟩, ⟨Below.refl _ _⟩⟩
  case round =>
    obtain ⟨k, hk, rfl, Hf, Hb⟩ := hrel
    by_cases hlt : k < xs.length
    · obtain ⟨x, hx⟩ : ∃ x, xs[k]? = some x := ⟨_, List.getElem?_eq_getElem hlt⟩
      obtain ⟨b, off, rfl, hbl, hbc⟩ := Sl.Rds.elem Hr.out Tm.cs_len (by omega) hx
      have q_0 : wr.cell? ⟨b, off + k * 2, none⟩ = some (.int .i64 x.t) := (Hb.out.cell (p := ⟨b, off + k * 2 + 0, none⟩) hbl).trans (hbc 0 (by omega))
      have q_1 : wr.cell? ⟨b, off + k * 2 + 1, none⟩ = some (.int .i64 x.id) := (Hb.out.cell (p := ⟨b, off + k * 2 + 1, none⟩) hbl).trans (hbc 1 (by omega))
      clear hbc
      have hbw : b < wr.heap.size := Nat.lt_of_lt_of_le hbl Hb.out.size
      have Hx := K.H.mk hx
      clear hx
      
      cases hp : (Tm.odd) x
      · go_wp2_with ((go_at_call 28; (with_reducible refine (odd_c x _).mono ?_); rintro e W4 ⟨rfl, hb4⟩; obtain ⟨hB4, hC4, hF4, hZ4⟩ := K.bel_facts hb4; clear hb4))
        go_roundw
        case rel =>
          refine ⟨k + 1, by omega, by go_num, ⟨fun j y hj hy => ?_⟩, ⟨(by repeat (first | (with_reducible exact Below.refl _ _) | (with_reducible exact Hb.out) | (with_reducible refine K.b_bel ?_ (by assumption)) | (with_reducible refine K.b_alloc ?_ _) | (with_reducible refine K.b_drewN ?_ _) | (with_reducible refine K.b_drew ?_) | (with_reducible refine K.b_set ?_ (by first | omega | (simp <;> omega)) _) | (with_reducible refine K.b_only ?_ (by assumption) (by first | omega | (simp <;> omega)))))⟩⟩
          by_cases hjk : j = k
          · subst hjk
            rw [Hx.out] at hy
            cases hy
            exact hp
          · exact Hf.out j y (by omega) hy
        case measure => simp [intOf]; omega
      · go_wp2_with ((go_at_call 28; (with_reducible refine (odd_c x _).mono ?_); rintro e W4 ⟨rfl, hb4⟩; obtain ⟨hB4, hC4, hF4, hZ4⟩ := K.bel_facts hb4; clear hb4))
        go_ret
        exact ⟨K.ret_int (Sl.idx_found Hx.out hp Hf.out).symm, (by repeat (first | (with_reducible exact Below.refl _ _) | (with_reducible exact Hb.out) | (with_reducible refine K.b_bel ?_ (by assumption)) | (with_reducible refine K.b_alloc ?_ _) | (with_reducible refine K.b_drewN ?_ _) | (with_reducible refine K.b_drew ?_) | (with_reducible refine K.b_set ?_ (by first | omega | (simp <;> omega)) _) | (with_reducible refine K.b_only ?_ (by assumption) (by first | omega | (simp <;> omega)))))⟩
    · obtain rfl : k = xs.length := by omega
      go_wp2
      go_ret
      exact ⟨K.ret_int (Sl.idx_none Hf.out).symm, Hb.out⟩
theorem anyOdd_c (xs : List Tm) (A : Option Addr) (n c : Nat) (w : World) (hr : Sl.Rds w 2 A n (xs.flatMap Tm.cs)) :
    Calls Try.prog 34 #[.slice A n c, .func (.func 28) #[] #[]] w fun e w' => e = .returned (.bool (Sl.anyOf (Tm.odd) xs)) ∧ Below w.heap.size w w' := by
  have Hr := K.H.mk hr
  clear hr
  go_enter Try.func34, Try.ntmps34
  go_wp2_with (go_at_call 46; (with_reducible refine (ixOdd_c xs _ _ _ _ Hr.out).mono ?_); rintro e W1 ⟨rfl, hb1⟩; obtain ⟨hB1, hC1, hF1, hZ1⟩ := K.bel_facts hb1; clear hb1)
  go_ret
  exact ⟨K.ret_bool (Sl.idx_any _ _), (by repeat (first | (with_reducible exact Below.refl _ _) | (with_reducible refine K.b_bel ?_ (by assumption)) | (with_reducible refine K.b_alloc ?_ _) | (with_reducible refine K.b_drewN ?_ _) | (with_reducible refine K.b_drew ?_) | (with_reducible refine K.b_set ?_ (by first | omega | (simp <;> omega)) _) | (with_reducible refine K.b_only ?_ (by assumption) (by first | omega | (simp <;> omega)))))⟩
end Go.Proofs.Ytmoaekjkihbicaa.Tm
