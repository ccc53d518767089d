/- Calls: the reference's Check. -/
import Derived.Test.YtfepjpjkamlneaaClU
set_option linter.unusedVariables false
namespace Go.Proofs.Ytfepjpjkamlneaa.Cl
open Go.RowKit Go.Proofs.Ytfepjpjkamlneaa
attribute [local go_sem] K.max2_int K.min2_int K.max_two K.min_two K.max_three K.min_three
set_option linter.unusedSimpArgs false
theorem known_c (n : Int) (w : World) : Calls Try.prog 51 #[.int .i64 n] w fun e w' => e = .returned (.bool (inB 0 1073741824 n)) ∧ w' = w := by
  cases h : inB 0 1073741824 n
  all_goals
    go_enter Try.func51, Try.ntmps51
    first
      | (have h2 := inB_t.1 h
         have d1 : decide (0 ≤ n) = true := by simpa using h2.1
         have d2 : decide (n ≤ 1073741824) = true := by simpa using h2.2
         clear h h2
         go_wp2
         go_ret
         exact ⟨rfl, rfl⟩)
      | (have h2 := inB_f.1 h
         clear h
         go_wp2
         all_goals (go_ret; refine ⟨K.ret_bool ?_, rfl⟩; go_light; (try simp only [decide_eq_true_eq, decide_eq_false_iff_not] at *) <;> first | (simp; done) | omega))
set_option maxRecDepth 100000 in
set_option maxHeartbeats 4000000 in
theorem rPin_c (a f : Att) (w : World) : Calls Try.prog 52 #[a.a, f.a] w fun e w' => e = .returned (.bool (Pin.same a.pin f.pin)) ∧ Below w.heap.size w w' := by
  have e : Pin.same a.pin f.pin = ((a.b == f.b) && (a.i == f.i) && (a.s == f.s) && (a.q == f.q)) := rfl
  rw [e]
  cases e1 : (a.b == f.b) <;> cases e2 : (a.i == f.i) <;> cases e3 : (a.s == f.s) <;> cases e4 : (a.q == f.q)
  all_goals
    go_enter Try.func52, Try.ntmps52
    go_wp2
    go_ret
    exact ⟨rfl, (by repeat (first | (with_reducible exact Below.refl _ _) | (with_reducible refine K.b_bel ?_ (by assumption)) | (with_reducible refine K.b_alloc ?_ _) | (with_reducible refine K.b_drewN ?_ _) | (with_reducible refine K.b_drew ?_) | (with_reducible refine K.b_set ?_ (by first | omega | (simp <;> omega)) _) | (with_reducible refine K.b_only ?_ (by assumption) (by first | omega | (simp <;> omega)))))⟩
def eAll (x : Cal) : Int := if allOk x = true then 0 else 9
/-- 'odd' in the walk's own words. -/
theorem okI_odd {x : Cal} {k : Nat} {a f : Att} (ha : x.l[k]? = some a) (hf : x.l[0]? = some f) :
    okI x k = !(!inB 0 1073741824 a.b || !inB 0 1073741824 a.i || !inB 0 1073741824 a.s || !inB 0 1073741824 a.q || decide (a.t < lastI x k) || decide (536870912 < a.t) || (a.hedge && (((k : Int) == 0) || x.once)) || (x.once && !Pin.same a.pin f.pin)) := by
  unfold okI okA
  rw [getD_some ha, getD_some hf]
  have h0 : (k == 0) = ((k : Int) == 0) := by rw [Bool.eq_iff_iff]; simp
  have h1 : inB (lastI x k) 536870912 a.t = !(decide (a.t < lastI x k) || decide (536870912 < a.t)) := by simp [inB, bad]
  rw [h0, h1, show inB4 0 1073741824 a.b a.i a.s a.q = (inB 0 1073741824 a.b && inB 0 1073741824 a.i && inB 0 1073741824 a.s && inB 0 1073741824 a.q) from rfl]
  generalize inB 0 1073741824 a.b = v1
  generalize inB 0 1073741824 a.i = v2
  generalize inB 0 1073741824 a.s = v3
  generalize inB 0 1073741824 a.q = v4
  generalize decide (a.t < lastI x k) = v5
  generalize decide (536870912 < a.t) = v6
  generalize a.hedge = v7
  generalize ((k : Int) == 0) = v8
  generalize x.once = v9
  generalize Pin.same a.pin f.pin = v10
  cases v1 <;> cases v2 <;> cases v3 <;> cases v4 <;> cases v5 <;> cases v6 <;> cases v7 <;> cases v8 <;> cases v9 <;> cases v10 <;> rfl
theorem lastI_succ {x : Cal} {k : Nat} {a : Att} (ha : x.l[k]? = some a) : lastI x (k + 1) = a.t := by
  unfold lastI
  rw [if_neg (by omega), show k + 1 - 1 = k by omega, getD_some ha]
set_option maxRecDepth 100000 in
set_option maxHeartbeats 8000000 in
theorem rCheck_4 (x : Cal) (s : Set) (A : Option Addr) (n c : Nat) (w : World) (h : ¬ s.ok) :
    Calls Try.prog 31 #[x.a A n c, s.a] w fun e w' => e = .returned (.int .i64 4) ∧ Below w.heap.size w w' := by
  have GS := K.H.mk (fun W => rSets_c s W)
  rw [eSet_4 h] at GS
  clear h
  go_enter Try.func31, Try.ntmps31
  go_wp2_with (first | (go_at_call 33; (with_reducible refine (GS.out _).mono ?_); rintro e W1 ⟨rfl, hb1⟩; obtain ⟨hB1, hC1, hF1, hZ1⟩ := K.bel_facts hb1; clear hb1))
  go_ret
  exact ⟨rfl, (by repeat (first | (with_reducible exact Below.refl _ _) | (with_reducible refine K.b_bel ?_ (by assumption)) | (with_reducible refine K.b_alloc ?_ _) | (with_reducible refine K.b_drewN ?_ _) | (with_reducible refine K.b_drew ?_) | (with_reducible refine K.b_set ?_ (by first | omega | (simp <;> omega)) _) | (with_reducible refine K.b_only ?_ (by assumption) (by first | omega | (simp <;> omega)))))⟩
set_option maxRecDepth 100000 in
set_option maxHeartbeats 8000000 in
theorem rCheck_9 (x : Cal) (s : Set) (A : Option Addr) (n c : Nat) (w : World) (hr : Sl.Rds w 8 A n (x.l.flatMap Att.cs)) (h : s.ok) (h2 : ¬ headP x s) :
    Calls Try.prog 31 #[x.a A n c, s.a] w fun e w' => e = .returned (.int .i64 9) ∧ Below w.heap.size w w' := by
  obtain rfl := hr.length Att.cs_len (by omega)
  have hle := hr.le
  have GS := K.H.mk (fun W => rSets_c s W)
  rw [eSet_0 h] at GS
  have GC := K.H.mk (fun W => rOnce_c x.op.what W)
  have GO := K.H.mk (fun W => rOp_c x.op W)
  have Hn := K.H.mk h2
  unfold headP at Hn
  generalize eOp x.op = y at *
  generalize oOnce x.op.what = bo at *
  generalize eOnce x.op.what = eo at *
  clear h h2 hr
  
  
  
  go_enter Try.func31, Try.ntmps31
  go_wp2_with (first
    | (go_at_call 33; (with_reducible refine (GS.out _).mono ?_); rintro e W1 ⟨rfl, hb1⟩; obtain ⟨hB1, hC1, hF1, hZ1⟩ := K.bel_facts hb1; clear hb1; have kX1 : K.At W1 w.heap.size 26 (x.c A x.l.length c) := (by refine K.At.cast (by repeat (first | (with_reducible refine K.At.new' _ _ _ _ (by first | rfl | (simp; done) | omega)) | (with_reducible apply K.At.over hB1) | (with_reducible apply K.At.set) | (with_reducible apply K.At.alloc) | (with_reducible apply K.At.drewN) | (with_reducible apply K.At.drew) | (with_reducible apply K.At.far) | omega | (simp <;> omega))) ?_; rfl); obtain ⟨hc_kX1, hf_kX1, hl_kX1⟩ := K.At.facts kX1; have kS1 : K.At W1 (w.heap.size + 1) 30 s.c := (by refine K.At.cast (by repeat (first | (with_reducible refine K.At.new' _ _ _ _ (by first | rfl | (simp; done) | omega)) | (with_reducible apply K.At.over hB1) | (with_reducible apply K.At.set) | (with_reducible apply K.At.alloc) | (with_reducible apply K.At.drewN) | (with_reducible apply K.At.drew) | (with_reducible apply K.At.far) | omega | (simp <;> omega))) ?_; rfl); obtain ⟨hc_kS1, hf_kS1, hl_kS1⟩ := K.At.facts kS1)
    | (go_at_call 40; (with_reducible refine (GC.out _).mono ?_); rintro e w' ⟨rfl, hw'⟩; have hw'2 := Eq.symm hw'; clear hw'; subst hw'2)
    | (go_at_call 39; (with_reducible refine (GO.out _).mono ?_); rintro e W2 ⟨rfl, hb2⟩; obtain ⟨hB2, hC2, hF2, hZ2⟩ := K.bel_facts hb2; clear hb2; have kX2 : K.At W2 w.heap.size 26 (x.c A x.l.length c) := (by refine K.At.cast (by repeat (first | (with_reducible exact kX1) | (with_reducible refine K.At.new' _ _ _ _ (by first | rfl | (simp; done) | omega)) | (with_reducible apply K.At.over hB2) | (with_reducible apply K.At.set) | (with_reducible apply K.At.alloc) | (with_reducible apply K.At.drewN) | (with_reducible apply K.At.drew) | (with_reducible apply K.At.far) | omega | (simp <;> omega))) ?_; rfl); obtain ⟨hc_kX2, hf_kX2, hl_kX2⟩ := K.At.facts kX2; clear hc_kX1 hf_kX1 hl_kX1; have kS2 : K.At W2 (w.heap.size + 1) 30 s.c := (by refine K.At.cast (by repeat (first | (with_reducible exact kS1) | (with_reducible refine K.At.new' _ _ _ _ (by first | rfl | (simp; done) | omega)) | (with_reducible apply K.At.over hB2) | (with_reducible apply K.At.set) | (with_reducible apply K.At.alloc) | (with_reducible apply K.At.drewN) | (with_reducible apply K.At.drew) | (with_reducible apply K.At.far) | omega | (simp <;> omega))) ?_; rfl); obtain ⟨hc_kS2, hf_kS2, hl_kS2⟩ := K.At.facts kS2; clear hc_kS1 hf_kS1 hl_kS1))
  all_goals first
    | (go_ret; exact ⟨rfl, (by repeat (first | (with_reducible exact Below.refl _ _) | (with_reducible refine K.b_bel ?_ (by assumption)) | (with_reducible refine K.b_alloc ?_ _) | (with_reducible refine K.b_drewN ?_ _) | (with_reducible refine K.b_drew ?_) | (with_reducible refine K.b_set ?_ (by first | omega | (simp <;> omega)) _) | (with_reducible refine K.b_only ?_ (by assumption) (by first | omega | (simp <;> omega)))))⟩)
    | (exfalso; apply Hn.out; clear Hn GS GC GO; go_light; (try simp only [decide_eq_true_eq, decide_eq_false_iff_not, bne_eq_false_iff_eq] at *); refine ⟨⟨?_, ?_⟩, ?_, ?_, ⟨?_, ?_⟩, ⟨?_, ?_⟩, ⟨?_, ?_⟩, ?_⟩ <;> first | assumption | omega)
theorem rPin2_c (a f : Att) (h p o : Bool) (w : World) : Calls Try.prog 52 #[.agg #[.int .i64 a.b, .int .i64 a.i, .int .i64 a.s, .int .i64 a.q, .int .i64 a.t, .bool h, .bool p, .bool o], .agg #[.int .i64 f.b, .int .i64 f.i, .int .i64 f.s, .int .i64 f.q, .int .i64 f.t, .bool f.hedge, .bool f.probe, .bool f.over]] w fun e w' => e = .returned (.bool (Pin.same a.pin f.pin)) ∧ Below w.heap.size w w' :=
  rPin_c ⟨a.b, a.i, a.s, a.q, a.t, h, p, o⟩ f w
end Go.Proofs.Ytfepjpjkamlneaa.Cl
