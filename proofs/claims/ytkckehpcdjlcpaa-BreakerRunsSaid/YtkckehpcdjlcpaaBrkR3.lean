/- Run: acts, one by one. -/
import Derived.Test.YtkckehpcdjlcpaaBrkR2
namespace Go.Proofs.Ytkckehpcdjlcpaa.Brk
open Go.RowKit Go.Proofs.Ytkckehpcdjlcpaa
attribute [local go_sem] K.max2_int K.min2_int K.max_two K.min_two K.max_three K.min_three
set_option linter.unusedVariables false
set_option linter.unusedSimpArgs false
/-- The breaker and what was told, behind some acts. -/
def runs (s : S) (xs : List Act) : B × List Int := xs.foldl (fun r x => ((act r.1 s x).1, r.2 ++ [(act r.1 s x).2])) (zero, [])
theorem runs_snoc (s : S) (xs : List Act) (x : Act) : runs s (xs ++ [x]) = ((act (runs s xs).1 s x).1, (runs s xs).2 ++ [(act (runs s xs).1 s x).2]) := by
  simp [runs, List.foldl_append]
theorem runs_take {s : S} {xs : List Act} {k : Nat} {x : Act} (h : xs[k]? = some x) : runs s (xs.take (k + 1)) = ((act (runs s (xs.take k)).1 s x).1, (runs s (xs.take k)).2 ++ [(act (runs s (xs.take k)).1 s x).2]) := by
  obtain ⟨hk, hx⟩ := List.getElem?_eq_some_iff.1 h
  rw [List.take_succ_eq_append_getElem hk, hx, runs_snoc]
theorem runs_len (s : S) (xs : List Act) : (runs s xs).2.length = xs.length := by
  suffices h : ∀ (xs : List Act) (r : B × List Int), (xs.foldl (fun r x => ((act r.1 s x).1, r.2 ++ [(act r.1 s x).2])) r).2.length = r.2.length + xs.length by
    have := h xs (zero, [])
    simpa [runs] using this
  intro xs
  induction xs with
  | nil => intro r; simp
  | cons x xs ih => intro r; simp only [List.foldl_cons]; rw [ih]; simp; omega
theorem runs_inv {s : S} (hs : sets s = true) : ∀ {xs : List Act}, (∀ x ∈ xs, 0 ≤ x.tick ∧ x.tick ≤ 536870912) → ∀ k, inv (runs s (xs.take k)).1 s := by
  intro xs ht k
  induction k with
  | zero => simpa [runs] using inv_zero hs
  | succ k ih =>
    by_cases hk : k < xs.length
    · rw [runs_take (List.getElem?_eq_getElem hk)]
      exact inv_act hs (ht _ (List.getElem_mem hk)) ih
    · rw [List.take_of_length_le (by omega)] at *
      exact ih
def eRun (s : S) (xs : List Act) : Int := if Sl.anyOf badKind xs then 23 else if 512 < xs.length then 3 else if !sets s || Sl.anyOf badTick xs || !srt xs then 4 else 0
def oRun (s : S) (xs : List Act) : B × List Int := if eRun s xs = 0 then runs s xs else (zero, [])
theorem eRun_23 {s : S} {xs : List Act} (h : Sl.anyOf badKind xs = true) : eRun s xs = 23 := by simp [eRun, h]
theorem eRun_3 {s : S} {xs : List Act} (h : Sl.anyOf badKind xs = false) (h2 : 512 < (xs.length : Int)) : eRun s xs = 3 := by
  unfold eRun; rw [if_neg (by simp [h]), if_pos (by omega)]
theorem eRun_4 {s : S} {xs : List Act} (h : Sl.anyOf badKind xs = false) (h2 : (xs.length : Int) ≤ 512) (h3 : sets s = false ∨ Sl.anyOf badTick xs = true ∨ srt xs = false) : eRun s xs = 4 := by
  unfold eRun; rw [if_neg (by simp [h]), if_neg (by omega), if_pos]
  rcases h3 with h3 | h3 | h3 <;> simp [h3]
theorem eRun_0 {s : S} {xs : List Act} (h : eRun s xs = 0) : Sl.anyOf badKind xs = false ∧ xs.length ≤ 512 ∧ sets s = true ∧ Sl.anyOf badTick xs = false ∧ srt xs = true := by
  unfold eRun at h
  cases h1 : Sl.anyOf badKind xs <;> cases h2 : sets s <;> cases h3 : Sl.anyOf badTick xs <;> cases h4 : srt xs <;> simp [h1, h2, h3, h4] at h ⊢
  all_goals (first | omega | (split at h <;> (first | omega | cases h)))
theorem eRun_z {s : S} {xs : List Act} (h : Sl.anyOf badKind xs = false) (h2 : (xs.length : Int) ≤ 512) (h3 : sets s = true) (h4 : Sl.anyOf badTick xs = false) (h5 : srt xs = true) : eRun s xs = 0 := by
  unfold eRun; rw [if_neg (by simp [h]), if_neg (by omega), if_neg (by simp [h3, h4, h5])]
/-- What Run tells: a breaker, a row of its own, an error. -/
def RunPost (w : World) (b : B) (told : List Int) (er : Int) (e : Ending) (w' : World) : Prop :=
  ∃ v, e = .returned (.tuple #[b.a, v, .int .i64 er]) ∧ w'.ownsRow w.heap.size 3 1 v told.length (told.map (Value.int .i64)) ∧ Below w.heap.size w w'
set_option maxRecDepth 100000 in
set_option maxHeartbeats 2000000 in
theorem Run_bad (s : S) (xs : List Act) (A : Option Addr) (n c : Nat) (w : World) (hr : Sl.Rds w 4 A n (xs.flatMap Act.cs)) (h : eRun s xs ≠ 0) :
    Calls Try.prog 16 #[s.a, .slice A n c] w (RunPost w zero [] (eRun s xs)) := by
  obtain rfl := hr.length (fun _ => rfl) (by omega)
  have hle := hr.le
  have Hr := K.H.mk hr
  have Hh := K.H.mk h
  clear hr h
  have HK : ∀ W, K.Bel w W → Calls Try.prog 27 #[.slice A xs.length c, .func (.func 28) #[] #[]] W fun e w' => e = .returned (.bool (Sl.anyOf badKind xs)) ∧ Below W.heap.size W w' := fun W hb => cnKind_c xs A _ c W (Hr.out.bel hb)
  have GK := K.H.mk HK
  have HT : ∀ W, K.Bel w W → Calls Try.prog 27 #[.slice A xs.length c, .func (.func 29) #[] #[]] W fun e w' => e = .returned (.bool (Sl.anyOf badTick xs)) ∧ Below W.heap.size W w' := fun W hb => cnTick_c xs A _ c W (Hr.out.bel hb)
  have GT := K.H.mk HT
  have HS : Sl.anyOf badTick xs = false → ∀ W, K.Bel w W → Calls Try.prog 30 #[.slice A xs.length c, .func (.func 26) #[] #[]] W fun e w' => e = .returned (.bool (srt xs)) ∧ Below W.heap.size W w' := fun ht W hb => sorted_c xs A _ c W (Hr.out.bel hb) (fun x hx => by have := Sl.anyOf_false ht x hx; simp [badTick, inB] at this; omega)
  have GS := K.H.mk HS
  clear HK HT HS
  go_enter Try.func16, Try.ntmps16
  go_wp2_with (first | (go_at_call 27; (with_reducible refine (GK.out _ ⟨(by repeat (first | (with_reducible exact Below.refl _ _) | (with_reducible refine K.b_bel ?_ (by assumption)) | (with_reducible refine K.b_alloc ?_ _) | (with_reducible refine K.b_drewN ?_ _) | (with_reducible refine K.b_drew ?_) | (with_reducible refine K.b_set ?_ (by first | omega | (simp <;> omega)) _) | (with_reducible refine K.b_only ?_ (by assumption) (by first | omega | (simp <;> omega)))))⟩).mono ?_); rintro e W1 ⟨rfl, hb1⟩; obtain ⟨hB1, hC1, hF1, hZ1⟩ := K.bel_facts hb1; clear hb1; have hZZ := hZ1; (try simp at hZZ); have hz1_0 : w.heap.size < W1.heap.size := (by omega); have hz1_1 : w.heap.size + 1 < W1.heap.size := (by omega); clear hZZ) | (go_at_call 23; (with_reducible refine (sets_c s _).mono ?_); rintro e W2 ⟨rfl, hb2⟩; obtain ⟨hB2, hC2, hF2, hZ2⟩ := K.bel_facts hb2; clear hb2; have hZZ := hZ2; (try simp at hZZ); have hz2_0 : w.heap.size < W2.heap.size := (by omega); have hz2_1 : w.heap.size + 1 < W2.heap.size := (by omega); (try have hz2_1_0 : W1.heap.size < W2.heap.size := (by omega)); (try have hz2_1_1 : W1.heap.size + 1 < W2.heap.size := (by omega)); clear hZZ) | (go_at_call 27; (with_reducible refine (GT.out _ ⟨(by repeat (first | (with_reducible exact Below.refl _ _) | (with_reducible refine K.b_bel ?_ (by assumption)) | (with_reducible refine K.b_alloc ?_ _) | (with_reducible refine K.b_drewN ?_ _) | (with_reducible refine K.b_drew ?_) | (with_reducible refine K.b_set ?_ (by first | omega | (simp <;> omega)) _) | (with_reducible refine K.b_only ?_ (by assumption) (by first | omega | (simp <;> omega)))))⟩).mono ?_); rintro e W3 ⟨rfl, hb3⟩; obtain ⟨hB3, hC3, hF3, hZ3⟩ := K.bel_facts hb3; clear hb3; have hZZ := hZ3; (try simp at hZZ); have hz3_0 : w.heap.size < W3.heap.size := (by omega); have hz3_1 : w.heap.size + 1 < W3.heap.size := (by omega); (try have hz3_1_0 : W1.heap.size < W3.heap.size := (by omega)); (try have hz3_1_1 : W1.heap.size + 1 < W3.heap.size := (by omega)); (try have hz3_2_0 : W2.heap.size < W3.heap.size := (by omega)); (try have hz3_2_1 : W2.heap.size + 1 < W3.heap.size := (by omega)); clear hZZ) | (go_at_call 30; (with_reducible refine (GS.out (by first | assumption | exact Bool.eq_false_iff.2 (by assumption) | exact K.not_t (by assumption) | exact K.not_f (by assumption) | exact beq_iff_eq.1 (by assumption) | exact beq_eq_false_iff_ne.1 (by assumption) | (exact of_decide_eq_true (by assumption)) | (exact of_decide_eq_false (by assumption)) | omega) _ ⟨(by repeat (first | (with_reducible exact Below.refl _ _) | (with_reducible refine K.b_bel ?_ (by assumption)) | (with_reducible refine K.b_alloc ?_ _) | (with_reducible refine K.b_drewN ?_ _) | (with_reducible refine K.b_drew ?_) | (with_reducible refine K.b_set ?_ (by first | omega | (simp <;> omega)) _) | (with_reducible refine K.b_only ?_ (by assumption) (by first | omega | (simp <;> omega)))))⟩).mono ?_); rintro e W4 ⟨rfl, hb4⟩; obtain ⟨hB4, hC4, hF4, hZ4⟩ := K.bel_facts hb4; clear hb4; have hZZ := hZ4; (try simp at hZZ); have hz4_0 : w.heap.size < W4.heap.size := (by omega); have hz4_1 : w.heap.size + 1 < W4.heap.size := (by omega); (try have hz4_1_0 : W1.heap.size < W4.heap.size := (by omega)); (try have hz4_1_1 : W1.heap.size + 1 < W4.heap.size := (by omega)); (try have hz4_2_0 : W2.heap.size < W4.heap.size := (by omega)); (try have hz4_2_1 : W2.heap.size + 1 < W4.heap.size := (by omega)); (try have hz4_3_0 : W3.heap.size < W4.heap.size := (by omega)); (try have hz4_3_1 : W3.heap.size + 1 < W4.heap.size := (by omega)); clear hZZ))
  all_goals first
    | (have e : eRun s xs = 23 := eRun_23 (by first | assumption | exact Bool.eq_false_iff.2 (by assumption) | exact K.not_t (by assumption) | exact K.not_f (by assumption) | exact beq_iff_eq.1 (by assumption) | exact beq_eq_false_iff_ne.1 (by assumption) | (exact of_decide_eq_true (by assumption)) | (exact of_decide_eq_false (by assumption)) | omega)
       rw [e]
       ((try simp only [Exit.inBlock, Exit.then]); refine bodyPost_ret (v := .tuple #[.agg #[.int .i64 0, .int .i64 0, .int .i64 0, .int .i64 0, .int .i64 0], .slice none 0 0, .int .i64 23]) (by simp only [results, Try.results16]; go_simp) rfl ?_)
       exact ⟨_, rfl, World.ownsRow_nil _ _ _ _, (by repeat (first | (with_reducible exact Below.refl _ _) | (with_reducible refine K.b_bel ?_ (by assumption)) | (with_reducible refine K.b_alloc ?_ _) | (with_reducible refine K.b_drewN ?_ _) | (with_reducible refine K.b_drew ?_) | (with_reducible refine K.b_set ?_ (by first | omega | (simp <;> omega)) _) | (with_reducible refine K.b_only ?_ (by assumption) (by first | omega | (simp <;> omega)))))⟩)
    | (have e : eRun s xs = 3 := eRun_3 (by first | assumption | exact Bool.eq_false_iff.2 (by assumption) | exact K.not_t (by assumption) | exact K.not_f (by assumption) | exact beq_iff_eq.1 (by assumption) | exact beq_eq_false_iff_ne.1 (by assumption) | (exact of_decide_eq_true (by assumption)) | (exact of_decide_eq_false (by assumption)) | omega) (by first | assumption | exact Bool.eq_false_iff.2 (by assumption) | exact K.not_t (by assumption) | exact K.not_f (by assumption) | exact beq_iff_eq.1 (by assumption) | exact beq_eq_false_iff_ne.1 (by assumption) | (exact of_decide_eq_true (by assumption)) | (exact of_decide_eq_false (by assumption)) | omega)
       rw [e]
       ((try simp only [Exit.inBlock, Exit.then]); refine bodyPost_ret (v := .tuple #[.agg #[.int .i64 0, .int .i64 0, .int .i64 0, .int .i64 0, .int .i64 0], .slice none 0 0, .int .i64 3]) (by simp only [results, Try.results16]; go_simp) rfl ?_)
       exact ⟨_, rfl, World.ownsRow_nil _ _ _ _, (by repeat (first | (with_reducible exact Below.refl _ _) | (with_reducible refine K.b_bel ?_ (by assumption)) | (with_reducible refine K.b_alloc ?_ _) | (with_reducible refine K.b_drewN ?_ _) | (with_reducible refine K.b_drew ?_) | (with_reducible refine K.b_set ?_ (by first | omega | (simp <;> omega)) _) | (with_reducible refine K.b_only ?_ (by assumption) (by first | omega | (simp <;> omega)))))⟩)
    | (have e : eRun s xs = 4 := eRun_4 (by first | assumption | exact Bool.eq_false_iff.2 (by assumption) | exact K.not_t (by assumption) | exact K.not_f (by assumption) | exact beq_iff_eq.1 (by assumption) | exact beq_eq_false_iff_ne.1 (by assumption) | (exact of_decide_eq_true (by assumption)) | (exact of_decide_eq_false (by assumption)) | omega) (by first | assumption | exact Bool.eq_false_iff.2 (by assumption) | exact K.not_t (by assumption) | exact K.not_f (by assumption) | exact beq_iff_eq.1 (by assumption) | exact beq_eq_false_iff_ne.1 (by assumption) | (exact of_decide_eq_true (by assumption)) | (exact of_decide_eq_false (by assumption)) | omega) (by first | exact .inl (by first | assumption | exact Bool.eq_false_iff.2 (by assumption) | exact K.not_t (by assumption) | exact K.not_f (by assumption) | exact beq_iff_eq.1 (by assumption) | exact beq_eq_false_iff_ne.1 (by assumption) | (exact of_decide_eq_true (by assumption)) | (exact of_decide_eq_false (by assumption)) | omega) | exact .inr (.inl (by first | assumption | exact Bool.eq_false_iff.2 (by assumption) | exact K.not_t (by assumption) | exact K.not_f (by assumption) | exact beq_iff_eq.1 (by assumption) | exact beq_eq_false_iff_ne.1 (by assumption) | (exact of_decide_eq_true (by assumption)) | (exact of_decide_eq_false (by assumption)) | omega)) | exact .inr (.inr (by first | assumption | exact Bool.eq_false_iff.2 (by assumption) | exact K.not_t (by assumption) | exact K.not_f (by assumption) | exact beq_iff_eq.1 (by assumption) | exact beq_eq_false_iff_ne.1 (by assumption) | (exact of_decide_eq_true (by assumption)) | (exact of_decide_eq_false (by assumption)) | omega)))
       rw [e]
       ((try simp only [Exit.inBlock, Exit.then]); refine bodyPost_ret (v := .tuple #[.agg #[.int .i64 0, .int .i64 0, .int .i64 0, .int .i64 0, .int .i64 0], .slice none 0 0, .int .i64 4]) (by simp only [results, Try.results16]; go_simp) rfl ?_)
       exact ⟨_, rfl, World.ownsRow_nil _ _ _ _, (by repeat (first | (with_reducible exact Below.refl _ _) | (with_reducible refine K.b_bel ?_ (by assumption)) | (with_reducible refine K.b_alloc ?_ _) | (with_reducible refine K.b_drewN ?_ _) | (with_reducible refine K.b_drew ?_) | (with_reducible refine K.b_set ?_ (by first | omega | (simp <;> omega)) _) | (with_reducible refine K.b_only ?_ (by assumption) (by first | omega | (simp <;> omega)))))⟩)
    | (exfalso; exact Hh.out (eRun_z (by first | assumption | exact Bool.eq_false_iff.2 (by assumption) | exact K.not_t (by assumption) | exact K.not_f (by assumption) | exact beq_iff_eq.1 (by assumption) | exact beq_eq_false_iff_ne.1 (by assumption) | (exact of_decide_eq_true (by assumption)) | (exact of_decide_eq_false (by assumption)) | omega) (by first | assumption | exact Bool.eq_false_iff.2 (by assumption) | exact K.not_t (by assumption) | exact K.not_f (by assumption) | exact beq_iff_eq.1 (by assumption) | exact beq_eq_false_iff_ne.1 (by assumption) | (exact of_decide_eq_true (by assumption)) | (exact of_decide_eq_false (by assumption)) | omega) (by first | assumption | exact Bool.eq_false_iff.2 (by assumption) | exact K.not_t (by assumption) | exact K.not_f (by assumption) | exact beq_iff_eq.1 (by assumption) | exact beq_eq_false_iff_ne.1 (by assumption) | (exact of_decide_eq_true (by assumption)) | (exact of_decide_eq_false (by assumption)) | omega) (by first | assumption | exact Bool.eq_false_iff.2 (by assumption) | exact K.not_t (by assumption) | exact K.not_f (by assumption) | exact beq_iff_eq.1 (by assumption) | exact beq_eq_false_iff_ne.1 (by assumption) | (exact of_decide_eq_true (by assumption)) | (exact of_decide_eq_false (by assumption)) | omega) (by first | assumption | exact Bool.eq_false_iff.2 (by assumption) | exact K.not_t (by assumption) | exact K.not_f (by assumption) | exact beq_iff_eq.1 (by assumption) | exact beq_eq_false_iff_ne.1 (by assumption) | (exact of_decide_eq_true (by assumption)) | (exact of_decide_eq_false (by assumption)) | omega)))
/-- A row of whole numbers, one more. -/
theorem told_snoc (l : List Int) (x : Int) : l.map (Value.int .i64) ++ [.int .i64 x] = (l ++ [x]).map (Value.int .i64) := by simp
theorem info_int : (Try.prog.info? 3).map (fun i => (i.zero, i.size, i.bytes)) = some (some (.int .i64 0), 1, 8) := by kernel_rfl
set_option maxRecDepth 100000 in
set_option maxHeartbeats 4000000 in
theorem Run_ok (s : S) (xs : List Act) (A : Option Addr) (n c : Nat) (w : World) (hr : Sl.Rds w 4 A n (xs.flatMap Act.cs)) (h : eRun s xs = 0) :
    Calls Try.prog 16 #[s.a, .slice A n c] w (RunPost w (runs s xs).1 (runs s xs).2 0) := by
  obtain rfl := hr.length (fun _ => rfl) (by omega)
  have hle := hr.le
  have Hr := K.H.mk hr
  obtain ⟨z1, z2, z3, z4, z5⟩ := eRun_0 h
  have ht : ∀ x ∈ xs, 0 ≤ x.tick ∧ x.tick ≤ 536870912 := fun x hx => by have := Sl.anyOf_false z4 x hx; simp [badTick, inB] at this; omega
  have Ht := K.H.mk ht
  have Hs := K.H.mk z3
  have HK : ∀ W, K.Bel w W → Calls Try.prog 27 #[.slice A xs.length c, .func (.func 28) #[] #[]] W fun e w' => e = .returned (.bool false) ∧ Below W.heap.size W w' := fun W hb => by
    have h2 := cnKind_c xs A _ c W (Hr.out.bel hb)
    rw [z1] at h2; exact h2
  have GK := K.H.mk HK
  have HT : ∀ W, K.Bel w W → Calls Try.prog 27 #[.slice A xs.length c, .func (.func 29) #[] #[]] W fun e w' => e = .returned (.bool false) ∧ Below W.heap.size W w' := fun W hb => by
    have h2 := cnTick_c xs A _ c W (Hr.out.bel hb)
    rw [z4] at h2; exact h2
  have GT := K.H.mk HT
  have HS : ∀ W, K.Bel w W → Calls Try.prog 30 #[.slice A xs.length c, .func (.func 26) #[] #[]] W fun e w' => e = .returned (.bool true) ∧ Below W.heap.size W w' := fun W hb => by
    have h2 := sorted_c xs A _ c W (Hr.out.bel hb) ht
    rw [z5] at h2; exact h2
  have GS := K.H.mk HS
  have HC : ∀ W, Calls Try.prog 23 #[s.a] W fun e w' => e = .returned (.bool true) ∧ Below W.heap.size W w' := fun W => by
    have h2 := sets_c s W
    rw [z3] at h2; exact h2
  have GC := K.H.mk HC
  clear HK HT HS HC hr h ht z1 z3 z4 z5
  go_enter Try.func16, Try.ntmps16
  go_wp2_with (first | (go_at_call 27; (with_reducible refine (GK.out _ ⟨(by repeat (first | (with_reducible exact Below.refl _ _) | (with_reducible refine K.b_bel ?_ (by assumption)) | (with_reducible refine K.b_alloc ?_ _) | (with_reducible refine K.b_drewN ?_ _) | (with_reducible refine K.b_drew ?_) | (with_reducible refine K.b_set ?_ (by first | omega | (simp <;> omega)) _) | (with_reducible refine K.b_only ?_ (by assumption) (by first | omega | (simp <;> omega)))))⟩).mono ?_); rintro e W1 ⟨rfl, hb1⟩; obtain ⟨hB1, hC1, hF1, hZ1⟩ := K.bel_facts hb1; clear hb1; have hZZ := hZ1; (try simp at hZZ); have hz1_0 : w.heap.size < W1.heap.size := (by omega); have hz1_1 : w.heap.size + 1 < W1.heap.size := (by omega); clear hZZ) | (go_at_call 23; (with_reducible refine (GC.out _).mono ?_); rintro e W2 ⟨rfl, hb2⟩; obtain ⟨hB2, hC2, hF2, hZ2⟩ := K.bel_facts hb2; clear hb2; have hZZ := hZ2; (try simp at hZZ); have hz2_0 : w.heap.size < W2.heap.size := (by omega); have hz2_1 : w.heap.size + 1 < W2.heap.size := (by omega); (try have hz2_1_0 : W1.heap.size < W2.heap.size := (by omega)); (try have hz2_1_1 : W1.heap.size + 1 < W2.heap.size := (by omega)); clear hZZ) | (go_at_call 27; (with_reducible refine (GT.out _ ⟨(by repeat (first | (with_reducible exact Below.refl _ _) | (with_reducible refine K.b_bel ?_ (by assumption)) | (with_reducible refine K.b_alloc ?_ _) | (with_reducible refine K.b_drewN ?_ _) | (with_reducible refine K.b_drew ?_) | (with_reducible refine K.b_set ?_ (by first | omega | (simp <;> omega)) _) | (with_reducible refine K.b_only ?_ (by assumption) (by first | omega | (simp <;> omega)))))⟩).mono ?_); rintro e W3 ⟨rfl, hb3⟩; obtain ⟨hB3, hC3, hF3, hZ3⟩ := K.bel_facts hb3; clear hb3; have hZZ := hZ3; (try simp at hZZ); have hz3_0 : w.heap.size < W3.heap.size := (by omega); have hz3_1 : w.heap.size + 1 < W3.heap.size := (by omega); (try have hz3_1_0 : W1.heap.size < W3.heap.size := (by omega)); (try have hz3_1_1 : W1.heap.size + 1 < W3.heap.size := (by omega)); (try have hz3_2_0 : W2.heap.size < W3.heap.size := (by omega)); (try have hz3_2_1 : W2.heap.size + 1 < W3.heap.size := (by omega)); clear hZZ) | (go_at_call 30; (with_reducible refine (GS.out _ ⟨(by repeat (first | (with_reducible exact Below.refl _ _) | (with_reducible refine K.b_bel ?_ (by assumption)) | (with_reducible refine K.b_alloc ?_ _) | (with_reducible refine K.b_drewN ?_ _) | (with_reducible refine K.b_drew ?_) | (with_reducible refine K.b_set ?_ (by first | omega | (simp <;> omega)) _) | (with_reducible refine K.b_only ?_ (by assumption) (by first | omega | (simp <;> omega)))))⟩).mono ?_); rintro e W4 ⟨rfl, hb4⟩; obtain ⟨hB4, hC4, hF4, hZ4⟩ := K.bel_facts hb4; clear hb4; have hZZ := hZ4; (try simp at hZZ); have hz4_0 : w.heap.size < W4.heap.size := (by omega); have hz4_1 : w.heap.size + 1 < W4.heap.size := (by omega); (try have hz4_1_0 : W1.heap.size < W4.heap.size := (by omega)); (try have hz4_1_1 : W1.heap.size + 1 < W4.heap.size := (by omega)); (try have hz4_2_0 : W2.heap.size < W4.heap.size := (by omega)); (try have hz4_2_1 : W2.heap.size + 1 < W4.heap.size := (by omega)); (try have hz4_3_0 : W3.heap.size < W4.heap.size := (by omega)); (try have hz4_3_1 : W3.heap.size + 1 < W4.heap.size := (by omega)); clear hZZ))
  refine K.wp_gen (fun W => ∃ g, w.heap.size + 1 < g ∧ g = W4.heap.size ∧ K.At W g 54 (mach zero s 0) ∧ K.At W (w.heap.size + 1) 23 #[.int .i64 0, .int .i64 0, .int .i64 0, .int .i64 0, .int .i64 0] ∧ Below w.heap.size w W) ⟨W4.heap.size, hz4_1, rfl, K.At.new _ _ _, (by refine K.At.cast (by repeat (first | (with_reducible refine K.At.new' _ _ _ _ (by first | rfl | (simp; done) | omega)) | (with_reducible apply K.At.over hB4) | (with_reducible apply K.At.over hB3) | (with_reducible apply K.At.over hB2) | (with_reducible apply K.At.over hB1) | (with_reducible apply K.At.set) | (with_reducible apply K.At.alloc) | (with_reducible apply K.At.drewN) | (with_reducible apply K.At.drew) | (with_reducible apply K.At.far) | omega | (simp <;> omega))) ?_; rfl), (by repeat (first | (with_reducible exact Below.refl _ _) | (with_reducible refine K.b_bel ?_ (by assumption)) | (with_reducible refine K.b_alloc ?_ _) | (with_reducible refine K.b_drewN ?_ _) | (with_reducible refine K.b_drew ?_) | (with_reducible refine K.b_set ?_ (by first | omega | (simp <;> omega)) _) | (with_reducible refine K.b_only ?_ (by assumption) (by first | omega | (simp <;> omega)))))⟩ ?_
  rintro W5 ⟨g, hg, hge, hA, hP, hb5⟩
  rw [← hge]
  have Hb5 := K.H.mk hb5
  clear hge hb5
  ((try clear hC4); (try clear hF4); (try clear hZ4); (try clear hc4); (try clear hf4); (try clear hl4); (try clear hB4); (try clear hO4); (try clear hA4); (try clear hz4_0); (try clear hz4_1); (try clear hz4_2); (try clear hz4_3); (try clear hz4_1_0); (try clear hz4_1_1); (try clear hz4_2_0); (try clear hz4_2_1); (try clear hz4_3_0); (try clear hz4_3_1); (try clear hC3); (try clear hF3); (try clear hZ3); (try clear hc3); (try clear hf3); (try clear hl3); (try clear hB3); (try clear hO3); (try clear hA3); (try clear hz3_0); (try clear hz3_1); (try clear hz3_2); (try clear hz3_3); (try clear hz3_1_0); (try clear hz3_1_1); (try clear hz3_2_0); (try clear hz3_2_1); (try clear hC2); (try clear hF2); (try clear hZ2); (try clear hc2); (try clear hf2); (try clear hl2); (try clear hB2); (try clear hO2); (try clear hA2); (try clear hz2_0); (try clear hz2_1); (try clear hz2_2); (try clear hz2_3); (try clear hz2_1_0); (try clear hz2_1_1); (try clear hC1); (try clear hF1); (try clear hZ1); (try clear hc1); (try clear hf1); (try clear hl1); (try clear hB1); (try clear hO1); (try clear hA1); (try clear hz1_0); (try clear hz1_1); (try clear hz1_2); (try clear hz1_3); (try clear GK); (try clear GT); (try clear GS); (try clear GC))
  go_loopw [9, 41] (fun v i wr => ∃ (k : Nat) (t : Int), k ≤ xs.length ∧ i = .int .i64 k ∧ wr.ownsRow w.heap.size 3 1 v k ((runs s (xs.take k)).2.map (Value.int .i64)) ∧ K.At wr g 54 (mach (runs s (xs.take k)).1 s t) ∧ K.At wr (w.heap.size + 1) 23 #[.int .i64 0, .int .i64 0, .int .i64 0, .int .i64 0, .int .i64 0] ∧ K.H (Below w.heap.size w wr)) (fun _ i _ => xs.length - (intOf i).toNat)
  case atStart => exact ⟨0, 0, by omega, rfl, World.ownsRow_nil _ _ _ _, hA, hP, Hb5⟩
  case round =>
    clear hA hP Hb5
    obtain ⟨k, t, hk, rfl, hown, hA, hP, Hb⟩ := hrel
    by_cases hlt : k < xs.length
    · obtain ⟨x, hx⟩ : ∃ x, xs[k]? = some x := ⟨_, List.getElem?_eq_getElem hlt⟩
      have Hsn := K.H.mk (runs_take (s := s) hx)
      have Hi := K.H.mk (runs_inv Hs.out Ht.out k)
      have Hx := K.H.mk (Ht.out x (List.mem_of_getElem? hx))
      generalize runs s (xs.take k) = r at hown hA Hsn Hi
      obtain ⟨b, off, rfl, hbl, hbc⟩ := Sl.Rds.elem Hr.out Act.cs_len (by omega) hx
      have q_0 : wr.cell? ⟨b, off + k * 4, none⟩ = some (.int .i64 x.what) := (Hb.out.cell (p := ⟨b, off + k * 4 + 0, none⟩) hbl).trans (hbc 0 (by omega))
      have q_1 : wr.cell? ⟨b, off + k * 4 + 1, none⟩ = some (.int .i64 x.tick) := (Hb.out.cell (p := ⟨b, off + k * 4 + 1, none⟩) hbl).trans (hbc 1 (by omega))
      have q_2 : wr.cell? ⟨b, off + k * 4 + 2, none⟩ = some (.bool x.probe) := (Hb.out.cell (p := ⟨b, off + k * 4 + 2, none⟩) hbl).trans (hbc 2 (by omega))
      have q_3 : wr.cell? ⟨b, off + k * 4 + 3, none⟩ = some (.bool x.good) := (Hb.out.cell (p := ⟨b, off + k * 4 + 3, none⟩) hbl).trans (hbc 3 (by omega))
      clear hbc
      have hbw : b < wr.heap.size := Nat.lt_of_lt_of_le hbl Hb.out.size
      obtain ⟨hc5, hf5, hl5⟩ := K.At.facts hA
      obtain ⟨hc6, hf6, hl6⟩ := K.At.facts hP
      have hng : wr.heap.size ≠ g := by omega
      have hnp : wr.heap.size ≠ w.heap.size + 1 := by omega
      clear hx
      have hq := Sl.own_ne hown hA (by decide)
      have hqp := Sl.own_ne hown hP (by decide)
      have hgp : w.heap.size + 1 ≠ g := by omega
      go_wp2_with (first | (go_at_call 31; (with_reducible refine (act_c r.1 s t x g _ Hs.out Hx.out Hi.out (by refine K.At.cast (by repeat (first | (with_reducible exact hA) | (with_reducible refine K.At.new' _ _ _ _ (by first | rfl | (simp; done) | omega)) | (with_reducible apply K.At.set) | (with_reducible apply K.At.alloc) | (with_reducible apply K.At.drewN) | (with_reducible apply K.At.drew) | (with_reducible apply K.At.far) | omega | (simp <;> omega))) ?_; rfl)).mono ?_); rintro e W7 ⟨rfl, hA7, ho7⟩; have hO7 := K.Only.mk ho7; clear ho7; obtain ⟨hC7, hF7, hZ7⟩ := K.only_facts hO7; obtain ⟨hc7, hf7, hl7⟩ := K.At.facts hA7) | (at_builtin; refine Sl.app1 (news := [.int .i64 (act r.1 s x).2]) rfl _ _ 41 3 (.int .i64 0) rfl Try.underlying41 info_int rfl (by decide) (by decide) rfl ((Sl.own_past (hown.alloc _) hO7 hq).alloc _) rfl rfl (fun j u hj => by rw [(K.At.new _ _ _).cell]; simpa using hj) (by simp [Value.oneCell']) (by omega) (by have h1 := Hb.out.size; have h2 := hZ7; simp at h2 ⊢; omega) ?_; intro v8 W8 hown8 hgr8))
      go_roundw
      case rel =>
        refine ⟨k + 1, x.tick, by omega, by go_num, ?_, ?_, ?_, ⟨?_⟩⟩
        · rw [Hsn.out]; simpa using hown8
        · rw [Hsn.out]; exact Sl.at_grown (hA7.alloc _) hgr8 hq
        · exact Sl.at_grown (by refine K.At.cast (by repeat (first | (with_reducible exact hP) | (with_reducible refine K.At.new' _ _ _ _ (by first | rfl | (simp; done) | omega)) | (with_reducible refine K.At.past hO7 hgp ?_) | (with_reducible apply K.At.past hO7 hgp) | (with_reducible apply K.At.set) | (with_reducible apply K.At.alloc) | (with_reducible apply K.At.drewN) | (with_reducible apply K.At.drew) | (with_reducible apply K.At.far) | omega | (simp <;> omega))) ?_; rfl) hgr8 hqp
        · exact Sl.below_grown (by repeat (first | (with_reducible exact Below.refl _ _) | (with_reducible exact Hb.out) | (with_reducible refine K.b_bel ?_ (by assumption)) | (with_reducible refine K.b_alloc ?_ _) | (with_reducible refine K.b_drewN ?_ _) | (with_reducible refine K.b_drew ?_) | (with_reducible refine K.b_set ?_ (by first | omega | (simp <;> omega)) _) | (with_reducible refine K.b_only ?_ (by assumption) (by first | omega | (simp <;> omega))))) hgr8 (Sl.own_base hown)
      case measure => simp [intOf]; omega
    · obtain rfl : k = xs.length := by omega
      rw [List.take_of_length_le (Nat.le_refl _)] at hown hA
      obtain ⟨hc5, hf5, hl5⟩ := K.At.facts hA
      obtain ⟨hc6, hf6, hl6⟩ := K.At.facts hP
      go_wp2
      have hqp := Sl.own_ne hown hP (by decide)
      generalize hr : runs s xs = r at *
      have hlen : r.2.length = xs.length := by rw [← hr]; exact runs_len s xs
      have Hlen := K.H.mk hlen
      clear hlen hr
      ((try simp only [Exit.inBlock, Exit.then]); refine bodyPost_ret (v := .tuple #[r.1.a, u9, .int .i64 0]) (by simp only [results, Try.results16]; go_simp) rfl ?_)
      refine ⟨u9, rfl, ?_, (by repeat (first | (with_reducible exact Below.refl _ _) | (with_reducible exact Hb.out) | (with_reducible refine K.b_bel ?_ (by assumption)) | (with_reducible refine K.b_alloc ?_ _) | (with_reducible refine K.b_drewN ?_ _) | (with_reducible refine K.b_drew ?_) | (with_reducible refine K.b_set ?_ (by first | omega | (simp <;> omega)) _) | (with_reducible refine K.b_only ?_ (by assumption) (by first | omega | (simp <;> omega)))))⟩
      rw [Hlen.out]
      repeat (first | (with_reducible exact hown) | (with_reducible refine Sl.own_set ?_ hqp _))
theorem Run_c (s : S) (xs : List Act) (A : Option Addr) (n c : Nat) (w : World) (hr : Sl.Rds w 4 A n (xs.flatMap Act.cs)) :
    Calls Try.prog 16 #[s.a, .slice A n c] w (RunPost w (oRun s xs).1 (oRun s xs).2 (eRun s xs)) := by
  unfold oRun
  by_cases h : eRun s xs = 0
  · rw [if_pos h, h]; exact Run_ok s xs A n c w hr h
  · rw [if_neg h]; exact Run_bad s xs A n c w hr h
end Go.Proofs.Ytkckehpcdjlcpaa.Brk
