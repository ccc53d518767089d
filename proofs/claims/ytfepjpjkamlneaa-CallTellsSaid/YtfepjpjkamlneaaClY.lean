/- Calls: the reference's outs, Plan, Own. -/
import Derived.Test.YtfepjpjkamlneaaClX2
import Derived.Test.YtfepjpjkamlneaaCp
set_option linter.unusedVariables false
namespace Go.Proofs.Ytfepjpjkamlneaa.Cl
open Go.RowKit Go.Proofs.Ytfepjpjkamlneaa
attribute [local go_sem] K.max2_int K.min2_int K.max_two K.min_two K.max_three K.min_three
set_option linter.unusedSimpArgs false
set_option maxRecDepth 100000 in
set_option maxHeartbeats 8000000 in
theorem rOuts_c (x : Cal) (A : Option Addr) (n c : Nat) (w : World) (hr : Sl.Rds w 8 A n (x.l.flatMap Att.cs)) (h64 : x.l.length ≤ 64) :
    Calls Try.prog 49 #[x.a A n c] w fun e w' => e = .returned (.tuple #[.int .i64 (nO x), .int .i64 (hO x)]) ∧ Below w.heap.size w w' := by
  obtain rfl := hr.length Att.cs_len (by omega)
  have hle := hr.le
  have Hr := K.H.mk hr
  have HN := K.H.mk (show nO x = nOut (outT x.l x.l.length) ∧ hO x = hOut (outT x.l x.l.length) from ⟨rfl, rfl⟩)
  generalize nO x = N at *
  generalize hO x = M at *
  clear hr
  go_enter Try.func49, Try.ntmps49
  go_wp2
  refine K.wp_gen (fun W => K.At W w.heap.size 26 (x.c A x.l.length c) ∧ Below w.heap.size w W) ⟨(by refine K.At.cast (by repeat (first | (with_reducible refine K.At.new' _ _ _ _ (by first | rfl | (simp; done) | omega)) | (with_reducible apply K.At.set) | (with_reducible apply K.At.alloc) | (with_reducible apply K.At.drewN) | (with_reducible apply K.At.drew) | (with_reducible apply K.At.far) | omega | (simp <;> omega))) ?_; rfl), (by repeat (first | (with_reducible exact Below.refl _ _) | (with_reducible refine K.b_bel ?_ (by assumption)) | (with_reducible refine K.b_alloc ?_ _) | (with_reducible refine K.b_drewN ?_ _) | (with_reducible refine K.b_drew ?_) | (with_reducible refine K.b_set ?_ (by first | omega | (simp <;> omega)) _) | (with_reducible refine K.b_only ?_ (by assumption) (by first | omega | (simp <;> omega)))))⟩ ?_
  rintro W1 ⟨hX, hb1⟩
  have Hb1 := K.H.mk hb1
  clear hb1
  go_loopw [4, 5, 6] (fun o m i wr => ∃ k : Nat, k ≤ x.l.length ∧ i = .int .i64 k ∧ o = .int .i64 (nOut (outT x.l k)) ∧ m = .int .i64 (hOut (outT x.l k)) ∧ K.At wr w.heap.size 26 (x.c A x.l.length c) ∧ K.H (Below w.heap.size w wr)) (fun _ _ i _ => x.l.length - (intOf i).toNat)
  case atStart => exact ⟨0, by omega, rfl, rfl, rfl, hX, Hb1⟩
  case round =>
    clear hX Hb1
    obtain ⟨k, hk, rfl, rfl, rfl, hX, Hb⟩ := hrel
    have HX := hX
    obtain ⟨hc5, hf5, hl5⟩ := K.At.facts hX
    have hn0 : 0 ≤ nOut (outT x.l k) ∧ nOut (outT x.l k) ≤ 64 := by have := outT_len x.l k; unfold nOut; omega
    have hm0 : 0 ≤ hOut (outT x.l k) ∧ hOut (outT x.l k) ≤ 64 := by
      have := outT_len x.l k; have h2 := List.length_filter_le (fun p : NA => p.2.hedge) (outT x.l k); unfold hOut; omega
    by_cases hlt : k < x.l.length
    · obtain ⟨a, hx⟩ : ∃ a, x.l[k]? = some a := ⟨_, List.getElem?_eq_getElem hlt⟩
      have hs := outT_n hx
      obtain ⟨b, off, rfl, hbl, hbc⟩ := Sl.Rds.elem Hr.out Att.cs_len (by omega) hx
      have q_0 : wr.cell? ⟨b, off + k * 8, none⟩ = some (.int .i64 a.b) := (Hb.out.cell (p := ⟨b, off + k * 8 + 0, none⟩) hbl).trans (hbc 0 (by omega))
      have q_1 : wr.cell? ⟨b, off + k * 8 + 1, none⟩ = some (.int .i64 a.i) := (Hb.out.cell (p := ⟨b, off + k * 8 + 1, none⟩) hbl).trans (hbc 1 (by omega))
      have q_2 : wr.cell? ⟨b, off + k * 8 + 2, none⟩ = some (.int .i64 a.s) := (Hb.out.cell (p := ⟨b, off + k * 8 + 2, none⟩) hbl).trans (hbc 2 (by omega))
      have q_3 : wr.cell? ⟨b, off + k * 8 + 3, none⟩ = some (.int .i64 a.q) := (Hb.out.cell (p := ⟨b, off + k * 8 + 3, none⟩) hbl).trans (hbc 3 (by omega))
      have q_4 : wr.cell? ⟨b, off + k * 8 + 4, none⟩ = some (.int .i64 a.t) := (Hb.out.cell (p := ⟨b, off + k * 8 + 4, none⟩) hbl).trans (hbc 4 (by omega))
      have q_5 : wr.cell? ⟨b, off + k * 8 + 5, none⟩ = some (.bool a.hedge) := (Hb.out.cell (p := ⟨b, off + k * 8 + 5, none⟩) hbl).trans (hbc 5 (by omega))
      have q_6 : wr.cell? ⟨b, off + k * 8 + 6, none⟩ = some (.bool a.probe) := (Hb.out.cell (p := ⟨b, off + k * 8 + 6, none⟩) hbl).trans (hbc 6 (by omega))
      have q_7 : wr.cell? ⟨b, off + k * 8 + 7, none⟩ = some (.bool a.over) := (Hb.out.cell (p := ⟨b, off + k * 8 + 7, none⟩) hbl).trans (hbc 7 (by omega))
      clear hbc
      have hbw : b < wr.heap.size := Nat.lt_of_lt_of_le hbl Hb.out.size
      clear hx HN
      cases ho : a.over
      · cases hh : a.hedge
        all_goals
          rw [ho] at q_7
          rw [hh] at q_5
          rw [ho, hh] at hs
          have Hs := K.H.mk hs
          clear hs ho hh
          go_wp2
          go_roundw
          case rel => exact ⟨k + 1, by omega, by go_num, by rw [Hs.out.1]; rfl, by rw [Hs.out.2]; simp, HX, Hb⟩
          case measure => simp [intOf]; omega
      · rw [ho] at q_7 hs
        have Hs := K.H.mk hs
        clear hs ho
        go_wp2
        go_roundw
        case rel => exact ⟨k + 1, by omega, by go_num, by rw [Hs.out.1]; simp, by rw [Hs.out.2]; simp, HX, Hb⟩
        case measure => simp [intOf]; omega
    · obtain rfl : k = x.l.length := by omega
      go_wp2
      go_ret2
      exact ⟨by rw [HN.out.1, HN.out.2]; rfl, Hb.out⟩
theorem planF_4 {x : Cal} {s : Set} {t u : Int} (h : x.dl ≤ t) : planF x s t u = 4 := by unfold planF; rw [if_pos h]
theorem planF_1 {x : Cal} {s : Set} {t u : Int} (h : ¬ x.dl ≤ t) (h2 : x.l.length = 0) : planF x s t u = 1 := by unfold planF; rw [if_neg h, if_pos h2]
theorem planF_0 {x : Cal} {s : Set} {t u : Int} (h : ¬ x.dl ≤ t) (h2 : ¬ x.l.length = 0) (h3 : s.att ≤ (x.l.length : Int)) : planF x s t u = 0 := by unfold planF; rw [if_neg h, if_neg h2, if_pos h3]
theorem planF_2 {x : Cal} {s : Set} {t u : Int} (h : ¬ x.dl ≤ t) (h2 : ¬ x.l.length = 0) (h3 : ¬ s.att ≤ (x.l.length : Int)) (h4 : nO x = 0 ∧ x.nx ≤ t) : planF x s t u = 2 := by unfold planF; rw [if_neg h, if_neg h2, if_neg h3, if_pos h4]
theorem planF_3 {x : Cal} {s : Set} {t u : Int} (h : ¬ x.dl ≤ t) (h2 : ¬ x.l.length = 0) (h3 : ¬ s.att ≤ (x.l.length : Int)) (h4 : ¬ (nO x = 0 ∧ x.nx ≤ t)) (h5 : hedP x s t u) : planF x s t u = 3 := by unfold planF hedB; rw [if_neg h, if_neg h2, if_neg h3, if_neg h4, decide_eq_true h5, if_pos rfl]
theorem planF_00 {x : Cal} {s : Set} {t u : Int} (h : ¬ x.dl ≤ t) (h2 : ¬ x.l.length = 0) (h4 : ¬ s.att ≤ (x.l.length : Int) → ¬ (nO x = 0 ∧ x.nx ≤ t)) (h5 : ¬ s.att ≤ (x.l.length : Int) → ¬ hedP x s t u) : planF x s t u = 0 := by
  by_cases h3 : s.att ≤ (x.l.length : Int)
  · exact planF_0 h h2 h3
  · unfold planF hedB; rw [if_neg h, if_neg h2, if_neg h3, if_neg (h4 h3), decide_eq_false (h5 h3), if_neg (by decide)]
set_option maxRecDepth 100000 in
set_option maxHeartbeats 4000000 in
theorem rOwn_c (x : Cal) (A : Option Addr) (n c : Nat) (w : World) (hr : Sl.Rds w 8 A n (x.l.flatMap Att.cs)) (hn : n * 48 ≤ 140737488355328) :
    Calls Try.prog 25 #[x.a A n c] w fun e w' => ∃ B d, e = .returned (x.a B n d) ∧ w'.ownsRow w.heap.size 37 8 (.slice B n d) n (x.l.flatMap Att.cs) ∧ Below w.heap.size w w' := by
  have Hr := K.H.mk hr
  have H1 := K.H.mk (one_att x.l)
  have Hn := K.H.mk hn
  clear hr hn
  generalize hcs : x.l.flatMap Att.cs = cs at *
  clear hcs
  go_enter Try.func25, Try.ntmps25
  go_wp2_with (at_builtin; refine Sl.app_all rfl _ _ 24 37 (.agg #[.int .i64 0, .int .i64 0, .int .i64 0, .int .i64 0, .int .i64 0, .bool false, .bool false, .bool false]) 8 48 rfl Try.underlying24 (by kernel_rfl) rfl (by decide) A n c cs rfl rfl (Hr.out.below (by repeat (first | (with_reducible exact Below.refl _ _) | (with_reducible refine K.b_bel ?_ (by assumption)) | (with_reducible refine K.b_alloc ?_ _) | (with_reducible refine K.b_drewN ?_ _) | (with_reducible refine K.b_drew ?_) | (with_reducible refine K.b_set ?_ (by first | omega | (simp <;> omega)) _) | (with_reducible refine K.b_only ?_ (by assumption) (by first | omega | (simp <;> omega)))))) H1.out Hn.out ?_; intro v W1 hown hb; obtain ⟨B1, d1, rfl, hR1⟩ := Sl.Rds.of_own hown; clear hR1; have Hown := K.H.mk hown; obtain ⟨hB1, hC1, hF1, hZ1⟩ := K.bel_facts hb; clear hown hb; have kX1 : K.At W1 w.heap.size 26 (x.c A n c) := (by refine K.At.cast (by repeat (first | (with_reducible refine K.At.new' _ _ _ _ (by first | rfl | (simp; done) | omega)) | (with_reducible apply K.At.over hB1) | (with_reducible apply K.At.set) | (with_reducible apply K.At.alloc) | (with_reducible apply K.At.drewN) | (with_reducible apply K.At.drew) | (with_reducible apply K.At.far) | omega | (simp <;> omega))) ?_; rfl); obtain ⟨hc_kX1, hf_kX1, hl_kX1⟩ := K.At.facts kX1; have kR1 : K.At W1 (w.heap.size + 1) 26 #[.int .i64 0, .int .i64 0, .int .i64 0, .int .i64 0, .int .i64 0, .bool false, .int .i64 0, .int .i64 0, .int .i64 0, .slice none 0 0] := (by refine K.At.cast (by repeat (first | (with_reducible refine K.At.new' _ _ _ _ (by first | rfl | (simp; done) | omega)) | (with_reducible apply K.At.over hB1) | (with_reducible apply K.At.set) | (with_reducible apply K.At.alloc) | (with_reducible apply K.At.drewN) | (with_reducible apply K.At.drew) | (with_reducible apply K.At.far) | omega | (simp <;> omega))) ?_; rfl); obtain ⟨hc_kR1, hf_kR1, hl_kR1⟩ := K.At.facts kR1)
  ((try simp only [Exit.inBlock, Exit.then]); refine bodyPost_ret (v := x.a B1 n d1) (by simp only [results, Try.results25]; go_simp) rfl ?_)
  have hq := Sl.own_ne Hown.out kX1 (by decide)
  have hq2 := Sl.own_ne Hown.out kR1 (by decide)
  refine ⟨B1, d1, rfl, ?_, (by repeat (first | (with_reducible exact Below.refl _ _) | (with_reducible refine K.b_bel ?_ (by assumption)) | (with_reducible refine K.b_alloc ?_ _) | (with_reducible refine K.b_drewN ?_ _) | (with_reducible refine K.b_drew ?_) | (with_reducible refine K.b_set ?_ (by first | omega | (simp <;> omega)) _) | (with_reducible refine K.b_only ?_ (by assumption) (by first | omega | (simp <;> omega)))))⟩
  repeat (first | (with_reducible refine Sl.own_set ?_ hq _) | (with_reducible refine Sl.own_set ?_ hq2 _))
  exact Sl.own_low Hown.out (by simp; omega)
set_option maxRecDepth 100000 in
set_option maxHeartbeats 8000000 in
theorem rPlan_ok (x : Cal) (s : Set) (tick wait : Int) (A : Option Addr) (n c : Nat) (w : World) (hr : Sl.Rds w 8 A n (x.l.flatMap Att.cs)) (ht : tick ≤ 9223372036854775807) (h : eCall x s = 0) :
    Calls Try.prog 28 #[x.a A n c, s.a, .int .i64 tick, .int .i64 wait] w fun e w' => e = .returned (.tuple #[.int .i64 (planF x s tick wait), .int .i64 0]) ∧ Below w.heap.size w w' := by
  obtain rfl := hr.length Att.cs_len (by omega)
  have h16 := ok_len h
  have hl := ok_lastT h
  have GC := K.H.mk (fun (W : World) (hb : Below w.heap.size w W) => rCheck_c x s A x.l.length c W (hr.below hb))
  have GO := K.H.mk (fun (W : World) (hb : Below w.heap.size w W) => rOuts_c x A x.l.length c W (hr.below hb) (by omega))
  rw [h] at GC
  have hN := nO_in x
  have hH := hO_in x
  obtain ⟨y, hy⟩ : ∃ y, y = planF x s tick wait := ⟨_, rfl⟩
  have HY := K.H.mk hy
  rw [← hy]
  clear hy
  by_cases h0 : x.l.length = 0
  · have d0 : ((x.l.length : Int) == 0) = true := by simp; exact List.eq_nil_of_length_eq_zero h0
    have H0 := K.H.mk h0
    clear hr h hl h0
    
    
    
    go_enter Try.func28, Try.ntmps28
    go_wp2_with (first
      | (go_at_call 31; (with_reducible refine (GC.out _ (by repeat (first | (with_reducible exact Below.refl _ _) | (with_reducible refine K.b_bel ?_ (by assumption)) | (with_reducible refine K.b_alloc ?_ _) | (with_reducible refine K.b_drewN ?_ _) | (with_reducible refine K.b_drew ?_) | (with_reducible refine K.b_set ?_ (by first | omega | (simp <;> omega)) _) | (with_reducible refine K.b_only ?_ (by assumption) (by first | omega | (simp <;> omega)))))).mono ?_); rintro e W1 ⟨rfl, hb1⟩; obtain ⟨hB1, hC1, hF1, hZ1⟩ := K.bel_facts hb1; clear hb1; have kX1 : K.At W1 w.heap.size 26 (x.c A x.l.length c) := (by refine K.At.cast (by repeat (first | (with_reducible refine K.At.new' _ _ _ _ (by first | rfl | (simp; done) | omega)) | (with_reducible apply K.At.over hB1) | (with_reducible apply K.At.set) | (with_reducible apply K.At.alloc) | (with_reducible apply K.At.drewN) | (with_reducible apply K.At.drew) | (with_reducible apply K.At.far) | omega | (simp <;> omega))) ?_; rfl); obtain ⟨hc_kX1, hf_kX1, hl_kX1⟩ := K.At.facts kX1; have kS1 : K.At W1 (w.heap.size + 1) 30 s.c := (by refine K.At.cast (by repeat (first | (with_reducible refine K.At.new' _ _ _ _ (by first | rfl | (simp; done) | omega)) | (with_reducible apply K.At.over hB1) | (with_reducible apply K.At.set) | (with_reducible apply K.At.alloc) | (with_reducible apply K.At.drewN) | (with_reducible apply K.At.drew) | (with_reducible apply K.At.far) | omega | (simp <;> omega))) ?_; rfl); obtain ⟨hc_kS1, hf_kS1, hl_kS1⟩ := K.At.facts kS1)
      | (go_at_call 49; (with_reducible refine (GO.out _ (by repeat (first | (with_reducible exact Below.refl _ _) | (with_reducible refine K.b_bel ?_ (by assumption)) | (with_reducible refine K.b_alloc ?_ _) | (with_reducible refine K.b_drewN ?_ _) | (with_reducible refine K.b_drew ?_) | (with_reducible refine K.b_set ?_ (by first | omega | (simp <;> omega)) _) | (with_reducible refine K.b_only ?_ (by assumption) (by first | omega | (simp <;> omega)))))).mono ?_); rintro e W2 ⟨rfl, hb2⟩; obtain ⟨hB2, hC2, hF2, hZ2⟩ := K.bel_facts hb2; clear hb2; have kX2 : K.At W2 w.heap.size 26 (x.c A x.l.length c) := (by refine K.At.cast (by repeat (first | (with_reducible exact kX1) | (with_reducible refine K.At.new' _ _ _ _ (by first | rfl | (simp; done) | omega)) | (with_reducible apply K.At.over hB2) | (with_reducible apply K.At.set) | (with_reducible apply K.At.alloc) | (with_reducible apply K.At.drewN) | (with_reducible apply K.At.drew) | (with_reducible apply K.At.far) | omega | (simp <;> omega))) ?_; rfl); obtain ⟨hc_kX2, hf_kX2, hl_kX2⟩ := K.At.facts kX2; clear hc_kX1 hf_kX1 hl_kX1; have kS2 : K.At W2 (w.heap.size + 1) 30 s.c := (by refine K.At.cast (by repeat (first | (with_reducible exact kS1) | (with_reducible refine K.At.new' _ _ _ _ (by first | rfl | (simp; done) | omega)) | (with_reducible apply K.At.over hB2) | (with_reducible apply K.At.set) | (with_reducible apply K.At.alloc) | (with_reducible apply K.At.drewN) | (with_reducible apply K.At.drew) | (with_reducible apply K.At.far) | omega | (simp <;> omega))) ?_; rfl); obtain ⟨hc_kS2, hf_kS2, hl_kS2⟩ := K.At.facts kS2; clear hc_kS1 hf_kS1 hl_kS1))
    all_goals
      (try simp only [Exit.inBlock, Exit.then])
      go_ret2
      refine ⟨?_, (by repeat (first | (with_reducible exact Below.refl _ _) | (with_reducible refine K.b_bel ?_ (by assumption)) | (with_reducible refine K.b_alloc ?_ _) | (with_reducible refine K.b_drewN ?_ _) | (with_reducible refine K.b_drew ?_) | (with_reducible refine K.b_set ?_ (by first | omega | (simp <;> omega)) _) | (with_reducible refine K.b_only ?_ (by assumption) (by first | omega | (simp <;> omega)))))⟩
      rw [HY.out]
      have h0 := H0.out
      clear HY GC GO H0
      go_light
      (try simp only [decide_eq_true_eq, decide_eq_false_iff_not] at *)
      first | (rw [planF_4 (by omega)]; rfl) | (rw [planF_1 (by omega) (by omega)]; rfl)
  · obtain ⟨a, hx⟩ : ∃ a, x.l[x.l.length - 1]? = some a := ⟨_, List.getElem?_eq_getElem (by omega)⟩
    have hla : lastT x = a.t := by unfold lastT; rw [getD_some hx]
    have hl := hl (by omega)
    rw [hla] at hl
    have HL := K.H.mk hla
    have d0 : ((x.l.length : Int) == 0) = false := by simp; intro h; exact h0 (by rw [h]; rfl)
    have Hr := K.H.mk hr
    obtain ⟨b, off, rfl, hbl, hbc⟩ := Sl.Rds.elem hr Att.cs_len (by omega) hx
    have q_0 : w.cell? ⟨b, off + (x.l.length - 1) * 8, none⟩ = some (.int .i64 a.b) := ((Below.refl _ _ : Below w.heap.size w w).cell (p := ⟨b, off + (x.l.length - 1) * 8 + 0, none⟩) hbl).trans (hbc 0 (by omega))
    have q_1 : w.cell? ⟨b, off + (x.l.length - 1) * 8 + 1, none⟩ = some (.int .i64 a.i) := ((Below.refl _ _ : Below w.heap.size w w).cell (p := ⟨b, off + (x.l.length - 1) * 8 + 1, none⟩) hbl).trans (hbc 1 (by omega))
    have q_2 : w.cell? ⟨b, off + (x.l.length - 1) * 8 + 2, none⟩ = some (.int .i64 a.s) := ((Below.refl _ _ : Below w.heap.size w w).cell (p := ⟨b, off + (x.l.length - 1) * 8 + 2, none⟩) hbl).trans (hbc 2 (by omega))
    have q_3 : w.cell? ⟨b, off + (x.l.length - 1) * 8 + 3, none⟩ = some (.int .i64 a.q) := ((Below.refl _ _ : Below w.heap.size w w).cell (p := ⟨b, off + (x.l.length - 1) * 8 + 3, none⟩) hbl).trans (hbc 3 (by omega))
    have q_4 : w.cell? ⟨b, off + (x.l.length - 1) * 8 + 4, none⟩ = some (.int .i64 a.t) := ((Below.refl _ _ : Below w.heap.size w w).cell (p := ⟨b, off + (x.l.length - 1) * 8 + 4, none⟩) hbl).trans (hbc 4 (by omega))
    have q_5 : w.cell? ⟨b, off + (x.l.length - 1) * 8 + 5, none⟩ = some (.bool a.hedge) := ((Below.refl _ _ : Below w.heap.size w w).cell (p := ⟨b, off + (x.l.length - 1) * 8 + 5, none⟩) hbl).trans (hbc 5 (by omega))
    have q_6 : w.cell? ⟨b, off + (x.l.length - 1) * 8 + 6, none⟩ = some (.bool a.probe) := ((Below.refl _ _ : Below w.heap.size w w).cell (p := ⟨b, off + (x.l.length - 1) * 8 + 6, none⟩) hbl).trans (hbc 6 (by omega))
    have q_7 : w.cell? ⟨b, off + (x.l.length - 1) * 8 + 7, none⟩ = some (.bool a.over) := ((Below.refl _ _ : Below w.heap.size w w).cell (p := ⟨b, off + (x.l.length - 1) * 8 + 7, none⟩) hbl).trans (hbc 7 (by omega))
    clear hbc
    have HC := K.H.mk (fun (W : World) (hb : Below w.heap.size w W) => (hb.cell (p := ⟨b, off + (x.l.length - 1) * 8 + 4, none⟩) hbl).trans q_4)
    have hw1 : IntKind.i64.wrap ((x.l.length : Int) - 1) = ((x.l.length - 1 : Nat) : Int) := by rw [K.i64_in (by omega) (by omega)]; omega
    have hi1 : ((x.l.length - 1 : Nat) : Int) < x.l.length := by omega
    have hi0 : (0 : Int) ≤ ((x.l.length - 1 : Nat) : Int) := by omega
    have H0 := K.H.mk h0
    clear hx hla hr h h0 q_0 q_1 q_2 q_3 q_5 q_6 q_7
    
    
    
    go_enter Try.func28, Try.ntmps28
    go_wp2_with (first
      | (go_at_call 31; (with_reducible refine (GC.out _ (by repeat (first | (with_reducible exact Below.refl _ _) | (with_reducible refine K.b_bel ?_ (by assumption)) | (with_reducible refine K.b_alloc ?_ _) | (with_reducible refine K.b_drewN ?_ _) | (with_reducible refine K.b_drew ?_) | (with_reducible refine K.b_set ?_ (by first | omega | (simp <;> omega)) _) | (with_reducible refine K.b_only ?_ (by assumption) (by first | omega | (simp <;> omega)))))).mono ?_); rintro e W1 ⟨rfl, hb1⟩; obtain ⟨hB1, hC1, hF1, hZ1⟩ := K.bel_facts hb1; clear hb1; have kX1 : K.At W1 w.heap.size 26 (x.c (some ⟨b, off, none⟩) x.l.length c) := (by refine K.At.cast (by repeat (first | (with_reducible refine K.At.new' _ _ _ _ (by first | rfl | (simp; done) | omega)) | (with_reducible apply K.At.over hB1) | (with_reducible apply K.At.set) | (with_reducible apply K.At.alloc) | (with_reducible apply K.At.drewN) | (with_reducible apply K.At.drew) | (with_reducible apply K.At.far) | omega | (simp <;> omega))) ?_; rfl); obtain ⟨hc_kX1, hf_kX1, hl_kX1⟩ := K.At.facts kX1; have kS1 : K.At W1 (w.heap.size + 1) 30 s.c := (by refine K.At.cast (by repeat (first | (with_reducible refine K.At.new' _ _ _ _ (by first | rfl | (simp; done) | omega)) | (with_reducible apply K.At.over hB1) | (with_reducible apply K.At.set) | (with_reducible apply K.At.alloc) | (with_reducible apply K.At.drewN) | (with_reducible apply K.At.drew) | (with_reducible apply K.At.far) | omega | (simp <;> omega))) ?_; rfl); obtain ⟨hc_kS1, hf_kS1, hl_kS1⟩ := K.At.facts kS1)
      | (go_at_call 49; (with_reducible refine (GO.out _ (by repeat (first | (with_reducible exact Below.refl _ _) | (with_reducible refine K.b_bel ?_ (by assumption)) | (with_reducible refine K.b_alloc ?_ _) | (with_reducible refine K.b_drewN ?_ _) | (with_reducible refine K.b_drew ?_) | (with_reducible refine K.b_set ?_ (by first | omega | (simp <;> omega)) _) | (with_reducible refine K.b_only ?_ (by assumption) (by first | omega | (simp <;> omega)))))).mono ?_); rintro e W2 ⟨rfl, hb2⟩; obtain ⟨hB2, hC2, hF2, hZ2⟩ := K.bel_facts hb2; clear hb2; have kX2 : K.At W2 w.heap.size 26 (x.c (some ⟨b, off, none⟩) x.l.length c) := (by refine K.At.cast (by repeat (first | (with_reducible exact kX1) | (with_reducible refine K.At.new' _ _ _ _ (by first | rfl | (simp; done) | omega)) | (with_reducible apply K.At.over hB2) | (with_reducible apply K.At.set) | (with_reducible apply K.At.alloc) | (with_reducible apply K.At.drewN) | (with_reducible apply K.At.drew) | (with_reducible apply K.At.far) | omega | (simp <;> omega))) ?_; rfl); obtain ⟨hc_kX2, hf_kX2, hl_kX2⟩ := K.At.facts kX2; clear hc_kX1 hf_kX1 hl_kX1; have kS2 : K.At W2 (w.heap.size + 1) 30 s.c := (by refine K.At.cast (by repeat (first | (with_reducible exact kS1) | (with_reducible refine K.At.new' _ _ _ _ (by first | rfl | (simp; done) | omega)) | (with_reducible apply K.At.over hB2) | (with_reducible apply K.At.set) | (with_reducible apply K.At.alloc) | (with_reducible apply K.At.drewN) | (with_reducible apply K.At.drew) | (with_reducible apply K.At.far) | omega | (simp <;> omega))) ?_; rfl); obtain ⟨hc_kS2, hf_kS2, hl_kS2⟩ := K.At.facts kS2; clear hc_kS1 hf_kS1 hl_kS1; have q_9 := HC.out W2 (by repeat (first | (with_reducible exact Below.refl _ _) | (with_reducible refine K.b_bel ?_ (by assumption)) | (with_reducible refine K.b_alloc ?_ _) | (with_reducible refine K.b_drewN ?_ _) | (with_reducible refine K.b_drew ?_) | (with_reducible refine K.b_set ?_ (by first | omega | (simp <;> omega)) _) | (with_reducible refine K.b_only ?_ (by assumption) (by first | omega | (simp <;> omega))))); have hbw2 : b < W2.heap.size := (by omega)))
    all_goals
      (try simp only [Exit.inBlock, Exit.then])
      go_ret2
      refine ⟨?_, (by repeat (first | (with_reducible exact Below.refl _ _) | (with_reducible refine K.b_bel ?_ (by assumption)) | (with_reducible refine K.b_alloc ?_ _) | (with_reducible refine K.b_drewN ?_ _) | (with_reducible refine K.b_drew ?_) | (with_reducible refine K.b_set ?_ (by first | omega | (simp <;> omega)) _) | (with_reducible refine K.b_only ?_ (by assumption) (by first | omega | (simp <;> omega)))))⟩
      rw [HY.out]
      have h0 := H0.out
      have hla := HL.out
      clear HY GC GO HC H0 HL Hr
      go_light
      (try simp only [decide_eq_true_eq, decide_eq_false_iff_not, beq_iff_eq, beq_eq_false_iff_ne, Bool.not_eq_true', Bool.not_eq_false', Bool.not_eq_true, Bool.not_eq_false] at *)
      first
        | (rw [planF_4 (by omega)]; rfl)
        | (rw [planF_0 (by omega) (by omega) (by omega)]; rfl)
        | (rw [planF_2 (by omega) (by omega) (by omega) (by omega)]; rfl)
        | (rw [planF_3 (by omega) (by omega) (by omega) (by omega) ⟨by omega, by assumption, by omega, by omega, by omega⟩]; rfl)
        | (rw [planF_00 (by omega) (by omega) (by omega) (fun _ h => by obtain ⟨h1, h2, h3, h4, h5⟩ := h; first | omega | (simp_all; done) | (simp_all; omega))]; rfl)
theorem rPlan_c (x : Cal) (s : Set) (tick wait : Int) (A : Option Addr) (n c : Nat) (w : World) (hr : Sl.Rds w 8 A n (x.l.flatMap Att.cs)) (ht : tick ≤ 9223372036854775807) :
    Calls Try.prog 28 #[x.a A n c, s.a, .int .i64 tick, .int .i64 wait] w fun e w' => e = .returned (.tuple #[.int .i64 (oPlan x s tick wait), .int .i64 (eCall x s)]) ∧ Below w.heap.size w w' := by
  unfold oPlan
  by_cases h : eCall x s = 0
  · rw [if_pos h, h]; exact rPlan_ok x s tick wait A n c w hr ht h
  · rw [if_neg h]
    have GC := K.H.mk (fun (W : World) (hb : Below w.heap.size w W) => rCheck_c x s A n c W (hr.below hb))
    have hd : (eCall x s != 0) = true := by simpa using h
    generalize eCall x s = y at *
    clear hr h
    go_enter Try.func28, Try.ntmps28
    go_wp2_with (first | (go_at_call 31; (with_reducible refine (GC.out _ (by repeat (first | (with_reducible exact Below.refl _ _) | (with_reducible refine K.b_bel ?_ (by assumption)) | (with_reducible refine K.b_alloc ?_ _) | (with_reducible refine K.b_drewN ?_ _) | (with_reducible refine K.b_drew ?_) | (with_reducible refine K.b_set ?_ (by first | omega | (simp <;> omega)) _) | (with_reducible refine K.b_only ?_ (by assumption) (by first | omega | (simp <;> omega)))))).mono ?_); rintro e W1 ⟨rfl, hb1⟩; obtain ⟨hB1, hC1, hF1, hZ1⟩ := K.bel_facts hb1; clear hb1))
    go_ret2
    exact ⟨rfl, (by repeat (first | (with_reducible exact Below.refl _ _) | (with_reducible refine K.b_bel ?_ (by assumption)) | (with_reducible refine K.b_alloc ?_ _) | (with_reducible refine K.b_drewN ?_ _) | (with_reducible refine K.b_drew ?_) | (with_reducible refine K.b_set ?_ (by first | omega | (simp <;> omega)) _) | (with_reducible refine K.b_only ?_ (by assumption) (by first | omega | (simp <;> omega)))))⟩
end Go.Proofs.Ytfepjpjkamlneaa.Cl
