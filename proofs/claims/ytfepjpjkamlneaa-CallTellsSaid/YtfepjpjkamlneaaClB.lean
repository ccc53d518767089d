/- Calls: ops as the ledger sees them; settings. -/
import Derived.Test.YtfepjpjkamlneaaClA
import Derived.Test.YtfepjpjkamlneaaBofQ
import Derived.Laws.StructEq
set_option linter.unusedVariables false
namespace Go.Proofs.Ytfepjpjkamlneaa.Cl
open Go.RowKit Go.Proofs.Ytfepjpjkamlneaa
attribute [local go_sem] K.max2_int K.min2_int K.max_two K.min_two K.max_three K.min_three
set_option linter.unusedSimpArgs false
def usd (o : Op) : Op := if o.what = 1 then ⟨1, o.key, 0, o.amt⟩ else if o.what = 3 then ⟨3, o.key, 0, 0⟩ else if o.what = 4 then ⟨4, 0, 0, 0⟩ else o
set_option maxHeartbeats 1000000 in
theorem used_1 (k x a : Int) (w : World) : Calls Try.prog 58 #[(⟨1, k, x, a⟩ : Op).a] w fun e w' => e = .returned (usd ⟨1, k, x, a⟩).a ∧ Below w.heap.size w w' := by
  show Calls Try.prog 58 #[.agg #[.int .i64 1, .int .i64 k, .int .i64 x, .int .i64 a]] w fun e w' => e = .returned (.agg #[.int .i64 1, .int .i64 k, .int .i64 0, .int .i64 a]) ∧ Below w.heap.size w w'
  go_enter Try.func58, Try.ntmps58
  go_wp2
  ((try simp only [Exit.inBlock, Exit.then]); refine bodyPost_ret (v := .agg #[.int .i64 1, .int .i64 k, .int .i64 0, .int .i64 a]) (by simp only [results, Try.results58]; go_simp) rfl ?_)
  exact ⟨rfl, (by repeat (first | (with_reducible exact Below.refl _ _) | (with_reducible refine K.b_bel ?_ (by assumption)) | (with_reducible refine K.b_alloc ?_ _) | (with_reducible refine K.b_drewN ?_ _) | (with_reducible refine K.b_drew ?_) | (with_reducible refine K.b_set ?_ (by first | omega | (simp <;> omega)) _) | (with_reducible refine K.b_only ?_ (by assumption) (by first | omega | (simp <;> omega)))))⟩
set_option maxHeartbeats 1000000 in
theorem used_2 (k x a : Int) (w : World) : Calls Try.prog 58 #[(⟨2, k, x, a⟩ : Op).a] w fun e w' => e = .returned (usd ⟨2, k, x, a⟩).a ∧ Below w.heap.size w w' := by
  show Calls Try.prog 58 #[.agg #[.int .i64 2, .int .i64 k, .int .i64 x, .int .i64 a]] w fun e w' => e = .returned (.agg #[.int .i64 2, .int .i64 k, .int .i64 x, .int .i64 a]) ∧ Below w.heap.size w w'
  go_enter Try.func58, Try.ntmps58
  go_wp2
  ((try simp only [Exit.inBlock, Exit.then]); refine bodyPost_ret (v := .agg #[.int .i64 2, .int .i64 k, .int .i64 x, .int .i64 a]) (by simp only [results, Try.results58]; go_simp) rfl ?_)
  exact ⟨rfl, (by repeat (first | (with_reducible exact Below.refl _ _) | (with_reducible refine K.b_bel ?_ (by assumption)) | (with_reducible refine K.b_alloc ?_ _) | (with_reducible refine K.b_drewN ?_ _) | (with_reducible refine K.b_drew ?_) | (with_reducible refine K.b_set ?_ (by first | omega | (simp <;> omega)) _) | (with_reducible refine K.b_only ?_ (by assumption) (by first | omega | (simp <;> omega)))))⟩
set_option maxHeartbeats 1000000 in
theorem used_3 (k x a : Int) (w : World) : Calls Try.prog 58 #[(⟨3, k, x, a⟩ : Op).a] w fun e w' => e = .returned (usd ⟨3, k, x, a⟩).a ∧ Below w.heap.size w w' := by
  show Calls Try.prog 58 #[.agg #[.int .i64 3, .int .i64 k, .int .i64 x, .int .i64 a]] w fun e w' => e = .returned (.agg #[.int .i64 3, .int .i64 k, .int .i64 0, .int .i64 0]) ∧ Below w.heap.size w w'
  go_enter Try.func58, Try.ntmps58
  go_wp2
  ((try simp only [Exit.inBlock, Exit.then]); refine bodyPost_ret (v := .agg #[.int .i64 3, .int .i64 k, .int .i64 0, .int .i64 0]) (by simp only [results, Try.results58]; go_simp) rfl ?_)
  exact ⟨rfl, (by repeat (first | (with_reducible exact Below.refl _ _) | (with_reducible refine K.b_bel ?_ (by assumption)) | (with_reducible refine K.b_alloc ?_ _) | (with_reducible refine K.b_drewN ?_ _) | (with_reducible refine K.b_drew ?_) | (with_reducible refine K.b_set ?_ (by first | omega | (simp <;> omega)) _) | (with_reducible refine K.b_only ?_ (by assumption) (by first | omega | (simp <;> omega)))))⟩
set_option maxHeartbeats 1000000 in
theorem used_4 (k x a : Int) (w : World) : Calls Try.prog 58 #[(⟨4, k, x, a⟩ : Op).a] w fun e w' => e = .returned (usd ⟨4, k, x, a⟩).a ∧ Below w.heap.size w w' := by
  show Calls Try.prog 58 #[.agg #[.int .i64 4, .int .i64 k, .int .i64 x, .int .i64 a]] w fun e w' => e = .returned (.agg #[.int .i64 4, .int .i64 0, .int .i64 0, .int .i64 0]) ∧ Below w.heap.size w w'
  go_enter Try.func58, Try.ntmps58
  go_wp2
  ((try simp only [Exit.inBlock, Exit.then]); refine bodyPost_ret (v := .agg #[.int .i64 4, .int .i64 0, .int .i64 0, .int .i64 0]) (by simp only [results, Try.results58]; go_simp) rfl ?_)
  exact ⟨rfl, (by repeat (first | (with_reducible exact Below.refl _ _) | (with_reducible refine K.b_bel ?_ (by assumption)) | (with_reducible refine K.b_alloc ?_ _) | (with_reducible refine K.b_drewN ?_ _) | (with_reducible refine K.b_drew ?_) | (with_reducible refine K.b_set ?_ (by first | omega | (simp <;> omega)) _) | (with_reducible refine K.b_only ?_ (by assumption) (by first | omega | (simp <;> omega)))))⟩
theorem used_c (o : Op) (h : o.kind) (w : World) : Calls Try.prog 58 #[o.a] w fun e w' => e = .returned (usd o).a ∧ Below w.heap.size w w' := by
  obtain ⟨n, k, x, a⟩ := o
  unfold Op.kind at h
  simp only at h
  obtain rfl | rfl | rfl | rfl : n = 1 ∨ n = 2 ∨ n = 3 ∨ n = 4 := by omega
  · exact used_1 k x a w
  · exact used_2 k x a w
  · exact used_3 k x a w
  · exact used_4 k x a w
theorem usd_plain {o : Op} (h : o.kind) : (usd o = o) ↔ o.plain := by
  obtain ⟨n, k, x, a⟩ := o
  unfold Op.kind at h
  simp only at h
  obtain rfl | rfl | rfl | rfl : n = 1 ∨ n = 2 ∨ n = 3 ∨ n = 4 := by omega
  all_goals (simp [usd, Op.plain]; try omega)
theorem mn_nn {a b : Int} (h : 0 ≤ a ∧ 0 ≤ b) : decide (K.mn a b < 0) = false := by
  have : 0 ≤ K.mn a b := by unfold K.mn; split <;> omega
  simp; omega
theorem mx_lt {a b t : Int} (h : a < t ∧ b < t) : decide (t ≤ K.mx a b) = false := by
  have : K.mx a b < t := by unfold K.mx; split <;> omega
  simp; omega
def low (o : Op) : Int := if o.what = 2 then 0 else -1073741824
set_option maxRecDepth 100000 in
set_option maxHeartbeats 2000000 in
theorem Op_in (o : Op) (h : o.kind) (h2 : o.range) (w : World) : Calls Try.prog 37 #[o.a] w fun e w' => e = .returned (.int .i64 (eOp o)) ∧ Below w.heap.size w w' := by
  have GO := K.H.mk (fun W => Once_c o.what W)
  have GU := K.H.mk (fun W => used_c o h W)
  have he : eOnce o.what = 0 := by unfold eOnce; exact if_pos h
  rw [he] at GO
  obtain ⟨m, hm⟩ : ∃ m, m = oOnce o.what := ⟨_, rfl⟩
  rw [← hm] at GO
  clear hm he
  have HE := K.H.mk (show eOp o = if Op.same o (usd o) = true then 0 else 9 by
    by_cases h3 : o.plain
    · rw [eOp_0 h h2 h3, if_pos (Op.same_iff.2 ((usd_plain h).2 h3).symm)]
    · rw [eOp_9 h h2 h3, if_neg (fun hh => h3 ((usd_plain h).1 (Op.same_iff.1 hh).symm))])
  rw [HE.out]
  clear HE
  unfold Op.range at h2
  have hd1 : decide (K.mn o.key o.other < 0) = false := mn_nn (by omega)
  have hd2 : decide (16 ≤ K.mx o.key o.other) = false := mx_lt (by omega)
  have hd5 : decide (1073741824 < o.amt) = false := by simp; omega
  have hq := fun W => Op.neq o (usd o) W
  have hg := fun op x y W => Op.guard op x y o (usd o) W
  generalize usd o = u at *
  cases hb : (o.what == 2)
  all_goals
    have h3 := hb
    simp only [beq_iff_eq, beq_eq_false_iff_ne, ne_eq] at h3
    first | have hd4 : decide (o.amt < 0) = false := by simp; omega | have hd4 : decide (o.amt < -1073741824) = false := by simp; omega
    clear h h2 h3
    cases hs : Op.same o u
    all_goals
      go_enter Try.func37, Try.ntmps37
      go_wp2_with (first | (go_at_call 38; (with_reducible refine (GO.out _).mono ?_); rintro e w' ⟨rfl, hw'⟩; have hw'2 := Eq.symm hw'; clear hw'; subst hw'2))
      refine K.wp_region_ext_lit (by kernel_rfl) (by kernel_rfl) ?_
      repeat (any_goals (first | go_big_quiet_skip | quiet_step ((go_at_call 58; first | (with_reducible exact K.q_below (GU.out _)))) | (refine wpQuiet_step (fun K hK => ?_); go_simp; split <;> (refine hK _ ?_; clear hK K))))
      all_goals (refine wpQuiet_nil ?_; intro W9 hW9; obtain ⟨hB9, hC9, hF9, hZ9⟩ := K.ext_facts hW9; clear hW9)
      go_wp2
      go_ret
      exact ⟨rfl, (by repeat (first | (with_reducible exact Below.refl _ _) | (with_reducible refine K.b_bel ?_ (by assumption)) | (with_reducible refine K.b_alloc ?_ _) | (with_reducible refine K.b_drewN ?_ _) | (with_reducible refine K.b_drew ?_) | (with_reducible refine K.b_set ?_ (by first | omega | (simp <;> omega)) _) | (with_reducible refine K.b_only ?_ (by assumption) (by first | omega | (simp <;> omega)))))⟩
set_option maxRecDepth 100000 in
set_option maxHeartbeats 2000000 in
theorem Op_c (o : Op) (w : World) : Calls Try.prog 37 #[o.a] w fun e w' => e = .returned (.int .i64 (eOp o)) ∧ Below w.heap.size w w' := by
  by_cases h : o.kind
  · by_cases h2 : o.range
    · exact Op_in o h h2 w
    · have GO := K.H.mk (fun W => Once_c o.what W)
      have he : eOnce o.what = 0 := by unfold eOnce; exact if_pos h
      rw [he] at GO
      obtain ⟨m, hm⟩ : ∃ m, m = oOnce o.what := ⟨_, rfl⟩
      rw [← hm] at GO
      clear hm he
      rw [eOp_4 h h2]
      unfold Op.range at h2
      have Hr := K.H.mk h2
      clear h2
      cases hb : (o.what == 2)
      all_goals
        have h3 := hb
        simp only [beq_iff_eq, beq_eq_false_iff_ne, ne_eq] at h3
        have H3 := K.H.mk h3
        have Hk := K.H.mk h
        clear h h3
        go_enter Try.func37, Try.ntmps37
        go_wp2_with (first | (go_at_call 38; (with_reducible refine (GO.out _).mono ?_); rintro e w' ⟨rfl, hw'⟩; have hw'2 := Eq.symm hw'; clear hw'; subst hw'2))
        all_goals first
          | (go_ret; exact ⟨rfl, (by repeat (first | (with_reducible exact Below.refl _ _) | (with_reducible refine K.b_bel ?_ (by assumption)) | (with_reducible refine K.b_alloc ?_ _) | (with_reducible refine K.b_drewN ?_ _) | (with_reducible refine K.b_drew ?_) | (with_reducible refine K.b_set ?_ (by first | omega | (simp <;> omega)) _) | (with_reducible refine K.b_only ?_ (by assumption) (by first | omega | (simp <;> omega)))))⟩)
          | (exfalso; have h3 := H3.out; have h2 := Hr.out; apply h2; go_light; unfold K.mn K.mx at *; (repeat' (split at *)) <;> omega)
  · have GO := K.H.mk (fun W => Once_c o.what W)
    have he : eOnce o.what = 23 := by unfold eOnce; exact if_neg h
    rw [he] at GO
    rw [eOp_23 h]
    clear h he
    go_enter Try.func37, Try.ntmps37
    go_wp2_with (first | (go_at_call 38; (with_reducible refine (GO.out _).mono ?_); rintro e w' ⟨rfl, hw'⟩; have hw'2 := Eq.symm hw'; clear hw'; subst hw'2))
    go_ret
    exact ⟨rfl, (by repeat (first | (with_reducible exact Below.refl _ _) | (with_reducible refine K.b_bel ?_ (by assumption)) | (with_reducible refine K.b_alloc ?_ _) | (with_reducible refine K.b_drewN ?_ _) | (with_reducible refine K.b_drew ?_) | (with_reducible refine K.b_set ?_ (by first | omega | (simp <;> omega)) _) | (with_reducible refine K.b_only ?_ (by assumption) (by first | omega | (simp <;> omega)))))⟩
end Go.Proofs.Ytfepjpjkamlneaa.Cl
