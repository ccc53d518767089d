/- CallPlans: the walk. -/
import Derived.Test.YtfepjpjkamlneaaClL
set_option linter.unusedVariables false
namespace Go.Proofs.Ytfepjpjkamlneaa.Cl
open Go.RowKit Go.Proofs.Ytfepjpjkamlneaa
attribute [local go_sem] K.max2_int K.min2_int K.max_two K.min_two K.max_three K.min_three
set_option linter.unusedSimpArgs false
theorem ex_new : oNew 1 ⟨4, 0, 0, 0⟩ 5 9 = ⟨1, ⟨4, 0, 0, 0⟩, false, 5, 14, 5, []⟩ ∧ eNew 1 ⟨4, 0, 0, 0⟩ 5 9 = 0 := by
  constructor <;> simp [oNew, eNew, nOk, eOp, Op.kind, Op.range, Op.plain, oOnce]
theorem ex_plan : eCall ⟨1, ⟨4, 0, 0, 0⟩, false, 5, 14, 5, []⟩ ⟨2, 0, 3, 500, 1, 1, 2, 0⟩ = 0 ∧ oPlan ⟨1, ⟨4, 0, 0, 0⟩, false, 5, 14, 5, []⟩ ⟨2, 0, 3, 500, 1, 1, 2, 0⟩ 5 1 = 1 := by
  constructor <;> decide
set_option maxRecDepth 100000 in
set_option maxHeartbeats 4000000 in
theorem alive_c (w : World) : Calls Try.prog 10 #[] w fun e w' => e = .returned (.bool true) ∧ Below w.heap.size w w' := by
  have HN : ∀ W, Calls Try.prog 13 #[.int .i64 1, .agg #[.int .i64 4, .int .i64 0, .int .i64 0, .int .i64 0], .int .i64 5, .int .i64 9] W fun e w' => e = .returned (.tuple #[.agg #[.int .i64 1, .int .i64 4, .int .i64 0, .int .i64 0, .int .i64 0, .bool false, .int .i64 5, .int .i64 14, .int .i64 5, .slice none 0 0], .int .i64 0]) ∧ Below W.heap.size W w' := fun W => by
    have h := New_c 1 ⟨4, 0, 0, 0⟩ 5 9 W
    rw [ex_new.1, ex_new.2] at h
    exact h
  have HP : ∀ W, Calls Try.prog 11 #[.agg #[.int .i64 1, .int .i64 4, .int .i64 0, .int .i64 0, .int .i64 0, .bool false, .int .i64 5, .int .i64 14, .int .i64 5, .slice none 0 0], .agg #[.int .i64 2, .int .i64 0, .int .i64 3, .int .i64 500, .int .i64 1, .int .i64 1, .int .i64 2, .int .i64 0], .int .i64 5, .int .i64 1] W fun e w' => e = .returned (.tuple #[.int .i64 1, .int .i64 0]) ∧ Below W.heap.size W w' := fun W => by
    have h := Plan_c ⟨1, ⟨4, 0, 0, 0⟩, false, 5, 14, 5, []⟩ ⟨2, 0, 3, 500, 1, 1, 2, 0⟩ 5 1 none 0 0 W (Sl.Rds.nil _ _ _) (by omega)
    rw [ex_plan.1, ex_plan.2] at h
    exact h
  have GN := K.H.mk HN
  have GP := K.H.mk HP
  clear HN HP
  
  
  go_enter Try.func10, Try.ntmps10
  go_wp2_with (first
    | (go_at_call 13; (with_reducible refine (GN.out _).mono ?_); rintro e W1 ⟨rfl, hb1⟩; obtain ⟨hB1, hC1, hF1, hZ1⟩ := K.bel_facts hb1; clear hb1; have kS1 : K.At W1 w.heap.size 30 #[.int .i64 2, .int .i64 0, .int .i64 3, .int .i64 500, .int .i64 1, .int .i64 1, .int .i64 2, .int .i64 0] := (by refine K.At.cast (by repeat (first | (with_reducible refine K.At.new' _ _ _ _ (by first | rfl | (simp; done) | omega)) | (with_reducible apply K.At.over hB1) | (with_reducible apply K.At.set) | (with_reducible apply K.At.alloc) | (with_reducible apply K.At.drewN) | (with_reducible apply K.At.drew) | (with_reducible apply K.At.far) | omega | (simp <;> omega))) ?_; rfl); obtain ⟨hc_kS1, hf_kS1, hl_kS1⟩ := K.At.facts kS1)
    
    | (go_at_call 11; (with_reducible refine (GP.out _).mono ?_); rintro e W2 ⟨rfl, hb2⟩; obtain ⟨hB2, hC2, hF2, hZ2⟩ := K.bel_facts hb2; clear hb2; have kS2 : K.At W2 w.heap.size 30 #[.int .i64 2, .int .i64 0, .int .i64 3, .int .i64 500, .int .i64 1, .int .i64 1, .int .i64 2, .int .i64 0] := (by refine K.At.cast (by repeat (first | (with_reducible exact kS1) | (with_reducible refine K.At.new' _ _ _ _ (by first | rfl | (simp; done) | omega)) | (with_reducible apply K.At.over hB2) | (with_reducible apply K.At.set) | (with_reducible apply K.At.alloc) | (with_reducible apply K.At.drewN) | (with_reducible apply K.At.drew) | (with_reducible apply K.At.far) | omega | (simp <;> omega))) ?_; rfl); obtain ⟨hc_kS2, hf_kS2, hl_kS2⟩ := K.At.facts kS2; clear hc_kS1 hf_kS1 hl_kS1; have kC2 : K.At W2 W1.heap.size 26 #[.int .i64 1, .int .i64 4, .int .i64 0, .int .i64 0, .int .i64 0, .bool false, .int .i64 5, .int .i64 14, .int .i64 5, .slice none 0 0] := (by refine K.At.cast (by repeat (first | (with_reducible refine K.At.new' _ _ _ _ (by first | rfl | (simp; done) | omega)) | (with_reducible apply K.At.over hB2) | (with_reducible apply K.At.set) | (with_reducible apply K.At.alloc) | (with_reducible apply K.At.drewN) | (with_reducible apply K.At.drew) | (with_reducible apply K.At.far) | omega | (simp <;> omega))) ?_; rfl); obtain ⟨hc_kC2, hf_kC2, hl_kC2⟩ := K.At.facts kC2)
    | (go_at_call 12; (with_reducible refine (num_c _ _).mono ?_); rintro e w' ⟨rfl, hw'⟩; have hw'2 := Eq.symm hw'; clear hw'; subst hw'2))
  go_ret
  exact ⟨rfl, (by repeat (first | (with_reducible exact Below.refl _ _) | (with_reducible refine K.b_bel ?_ (by assumption)) | (with_reducible refine K.b_alloc ?_ _) | (with_reducible refine K.b_drewN ?_ _) | (with_reducible refine K.b_drew ?_) | (with_reducible refine K.b_set ?_ (by first | omega | (simp <;> omega)) _) | (with_reducible refine K.b_only ?_ (by assumption) (by first | omega | (simp <;> omega)))))⟩
theorem planF_of {x : Cal} {s : Set} {tick wait : Int} :
    (planF x s tick wait = 0 ∧ tick < x.dl ∧ 0 < x.l.length) ∨ (planF x s tick wait = 1 ∧ tick < x.dl ∧ x.l.length = 0) ∨ (planF x s tick wait = 2 ∧ tick < x.dl ∧ 0 < x.l.length ∧ (x.l.length : Int) < s.att ∧ nO x = 0 ∧ x.nx ≤ tick) ∨
    (planF x s tick wait = 3 ∧ tick < x.dl ∧ (x.l.length : Int) < s.att ∧ 0 < nO x ∧ x.once = false ∧ hO x < s.hed) ∨ (planF x s tick wait = 4 ∧ x.dl ≤ tick) := by
  unfold planF
  split
  · exact .inr (.inr (.inr (.inr ⟨rfl, by assumption⟩)))
  · split
    · exact .inr (.inl ⟨rfl, by omega, by omega⟩)
    · split
      · exact .inl ⟨rfl, by omega, by omega⟩
      · split
        · rename_i h; exact .inr (.inr (.inl ⟨rfl, by omega, by omega, by omega, h.1, h.2⟩))
        · split
          · rename_i h
            unfold hedB at h
            rw [decide_eq_true_iff] at h
            exact .inr (.inr (.inr (.inl ⟨rfl, by omega, by omega, h.1, h.2.1, h.2.2.1⟩)))
          · exact .inl ⟨rfl, by omega, by omega⟩
theorem outT_n {xs : List Att} {k : Nat} {a : Att} (h : xs[k]? = some a) : nOut (outT xs (k + 1)) = nOut (outT xs k) + (if a.over then 0 else 1) ∧ hOut (outT xs (k + 1)) = hOut (outT xs k) + (if a.over then 0 else if a.hedge then 1 else 0) := by
  cases ho : a.over
  · rw [outT_out h ho]
    cases hh : a.hedge <;> simp [nOut, hOut, hh]
  · rw [outT_over h ho]
    simp
set_option maxRecDepth 100000 in
set_option maxHeartbeats 8000000 in
theorem Plans_c (x : Cal) (s : Set) (tick wait : Int) (A : Option Addr) (n c : Nat) (w : World) (hr : Sl.Rds w 8 A n (x.l.flatMap Att.cs)) (ht : tick ≤ 9223372036854775807) :
    Calls Try.prog 3 #[x.a A n c, s.a, .int .i64 tick, .int .i64 wait] w fun e w' => e = .returned (.bool true) ∧ Below w.heap.size w w' := by
  obtain rfl := hr.length Att.cs_len (by omega)
  have hle := hr.le
  have GP := K.H.mk (fun (W : World) (hb : Below w.heap.size w W) => Plan_c x s tick wait A x.l.length c W (hr.below hb) ht)
  by_cases h : eCall x s = 0
  · have h16 := ok_len h
    rw [h, show oPlan x s tick wait = planF x s tick wait by unfold oPlan; rw [if_pos h]] at GP
    have HPF := K.H.mk (planF_of (x := x) (s := s) (tick := tick) (wait := wait))
    have Hr := K.H.mk hr
    generalize planF x s tick wait = y at *
    clear hr h
    obtain ⟨num, op, once, at0, dl, nx, xs⟩ := x
    have h17 : xs.length ≤ 16 := h16
    
    
    
    go_enter Try.func3, Try.ntmps3
    go_wp2_with (first
      | (go_at_call 10; (with_reducible refine (alive_c _).mono ?_); rintro e W1 ⟨rfl, hb1⟩; obtain ⟨hB1, hC1, hF1, hZ1⟩ := K.bel_facts hb1; clear hb1; have kX1 : K.At W1 w.heap.size 26 ((⟨num, op, once, at0, dl, nx, xs⟩ : Cal).c A xs.length c) := (by refine K.At.cast (by repeat (first | (with_reducible refine K.At.new' _ _ _ _ (by first | rfl | (simp; done) | omega)) | (with_reducible apply K.At.over hB1) | (with_reducible apply K.At.set) | (with_reducible apply K.At.alloc) | (with_reducible apply K.At.drewN) | (with_reducible apply K.At.drew) | (with_reducible apply K.At.far) | omega | (simp <;> omega))) ?_; rfl); obtain ⟨hc_kX1, hf_kX1, hl_kX1⟩ := K.At.facts kX1; have kS1 : K.At W1 (w.heap.size + 1) 30 s.c := (by refine K.At.cast (by repeat (first | (with_reducible refine K.At.new' _ _ _ _ (by first | rfl | (simp; done) | omega)) | (with_reducible apply K.At.over hB1) | (with_reducible apply K.At.set) | (with_reducible apply K.At.alloc) | (with_reducible apply K.At.drewN) | (with_reducible apply K.At.drew) | (with_reducible apply K.At.far) | omega | (simp <;> omega))) ?_; rfl); obtain ⟨hc_kS1, hf_kS1, hl_kS1⟩ := K.At.facts kS1)
      | (go_at_call 11; (with_reducible refine (GP.out _ (by repeat (first | (with_reducible exact Below.refl _ _) | (with_reducible refine K.b_bel ?_ (by assumption)) | (with_reducible refine K.b_alloc ?_ _) | (with_reducible refine K.b_drewN ?_ _) | (with_reducible refine K.b_drew ?_) | (with_reducible refine K.b_set ?_ (by first | omega | (simp <;> omega)) _) | (with_reducible refine K.b_only ?_ (by assumption) (by first | omega | (simp <;> omega)))))).mono ?_); rintro e W2 ⟨rfl, hb2⟩; obtain ⟨hB2, hC2, hF2, hZ2⟩ := K.bel_facts hb2; clear hb2; have kX2 : K.At W2 w.heap.size 26 ((⟨num, op, once, at0, dl, nx, xs⟩ : Cal).c A xs.length c) := (by refine K.At.cast (by repeat (first | (with_reducible exact kX1) | (with_reducible refine K.At.new' _ _ _ _ (by first | rfl | (simp; done) | omega)) | (with_reducible apply K.At.over hB2) | (with_reducible apply K.At.set) | (with_reducible apply K.At.alloc) | (with_reducible apply K.At.drewN) | (with_reducible apply K.At.drew) | (with_reducible apply K.At.far) | omega | (simp <;> omega))) ?_; rfl); obtain ⟨hc_kX2, hf_kX2, hl_kX2⟩ := K.At.facts kX2; clear hc_kX1 hf_kX1 hl_kX1; have kS2 : K.At W2 (w.heap.size + 1) 30 s.c := (by refine K.At.cast (by repeat (first | (with_reducible exact kS1) | (with_reducible refine K.At.new' _ _ _ _ (by first | rfl | (simp; done) | omega)) | (with_reducible apply K.At.over hB2) | (with_reducible apply K.At.set) | (with_reducible apply K.At.alloc) | (with_reducible apply K.At.drewN) | (with_reducible apply K.At.drew) | (with_reducible apply K.At.far) | omega | (simp <;> omega))) ?_; rfl); obtain ⟨hc_kS2, hf_kS2, hl_kS2⟩ := K.At.facts kS2; clear hc_kS1 hf_kS1 hl_kS1)
      | (go_at_call 12; (with_reducible refine (num_c _ _).mono ?_); rintro e w' ⟨rfl, hw'⟩; have hw'2 := Eq.symm hw'; clear hw'; subst hw'2))
    refine K.wp_gen (fun W => K.At W w.heap.size 26 ((⟨num, op, once, at0, dl, nx, xs⟩ : Cal).c A xs.length c) ∧ K.At W (w.heap.size + 1) 30 s.c ∧ Below w.heap.size w W) ⟨kX2, kS2, (by repeat (first | (with_reducible exact Below.refl _ _) | (with_reducible refine K.b_bel ?_ (by assumption)) | (with_reducible refine K.b_alloc ?_ _) | (with_reducible refine K.b_drewN ?_ _) | (with_reducible refine K.b_drew ?_) | (with_reducible refine K.b_set ?_ (by first | omega | (simp <;> omega)) _) | (with_reducible refine K.b_only ?_ (by assumption) (by first | omega | (simp <;> omega)))))⟩ ?_
    rintro W3 ⟨hX, hS, hb3⟩
    have Hb3 := K.H.mk hb3
    clear hb3 GP
    ((try clear hC2); (try clear hF2); (try clear hZ2); (try clear hc2); (try clear hf2); (try clear hl2); (try clear hB2); (try clear hO2); (try clear hA2); (try clear hz2_0); (try clear hz2_1); (try clear hz2_2); (try clear hz2_3); (try clear hz2_1_0); (try clear hz2_1_1); (try clear hC1); (try clear hF1); (try clear hZ1); (try clear hc1); (try clear hf1); (try clear hl1); (try clear hB1); (try clear hO1); (try clear hA1); (try clear hz1_0); (try clear hz1_1); (try clear hz1_2); (try clear hz1_3); (try clear kX1); (try clear kS1); (try clear kX2); (try clear kS2); (try clear hc_kX2); (try clear hf_kX2); (try clear hl_kX2); (try clear hc_kS2); (try clear hf_kS2); (try clear hl_kS2))
    go_loopw [11, 12, 13] (fun o m i wr => ∃ k : Nat, k ≤ xs.length ∧ i = .int .i64 k ∧ o = .int .i64 (nOut (outT xs k)) ∧ m = .int .i64 (hOut (outT xs k)) ∧ K.At wr w.heap.size 26 ((⟨num, op, once, at0, dl, nx, xs⟩ : Cal).c A xs.length c) ∧ K.At wr (w.heap.size + 1) 30 s.c ∧ K.H (Below w.heap.size w wr)) (fun _ _ i _ => xs.length - (intOf i).toNat)
    case atStart => exact ⟨0, by omega, rfl, rfl, rfl, hX, hS, Hb3⟩
    case round =>
      clear hX hS Hb3
      obtain ⟨k, hk, rfl, rfl, rfl, hX, hS, Hb⟩ := hrel
      have HX := hX
      have HS := hS
      obtain ⟨hc5, hf5, hl5⟩ := K.At.facts hX
      obtain ⟨hc6, hf6, hl6⟩ := K.At.facts hS
      have hn0 : 0 ≤ nOut (outT xs k) ∧ nOut (outT xs k) ≤ 16 := by have := outT_len xs k; unfold nOut; omega
      have hm0 : 0 ≤ hOut (outT xs k) ∧ hOut (outT xs k) ≤ 16 := by
        have := outT_len xs k; have h2 := List.length_filter_le (fun p : NA => p.2.hedge) (outT xs k); unfold hOut; omega
      by_cases hlt : k < xs.length
      · obtain ⟨a, hx⟩ : ∃ a, xs[k]? = some a := ⟨_, List.getElem?_eq_getElem hlt⟩
        have hs := outT_n hx
        obtain ⟨b, off, rfl, hbl, hbc⟩ := Sl.Rds.elem Hr.out Att.cs_len (by omega) hx
        have q_0 : wr.cell? ⟨b, off + k * 8, none⟩ = some (.int .i64 a.b) := (Hb.out.cell (p := ⟨b, off + k * 8 + 0, none⟩) hbl).trans (hbc 0 (by omega))
        have q_1 : wr.cell? ⟨b, off + k * 8 + 1, none⟩ = some (.int .i64 a.i) := (Hb.out.cell (p := ⟨b, off + k * 8 + 1, none⟩) hbl).trans (hbc 1 (by omega))
        have q_2 : wr.cell? ⟨b, off + k * 8 + 2, none⟩ = some (.int .i64 a.s) := (Hb.out.cell (p := ⟨b, off + k * 8 + 2, none⟩) hbl).trans (hbc 2 (by omega))
        have q_3 : wr.cell? ⟨b, off + k * 8 + 3, none⟩ = some (.int .i64 a.q) := (Hb.out.cell (p := ⟨b, off + k * 8 + 3, none⟩) hbl).trans (hbc 3 (by omega))
        have q_4 : wr.cell? ⟨b, off + k * 8 + 4, none⟩ = some (.int .i64 a.t) := (Hb.out.cell (p := ⟨b, off + k * 8 + 4, none⟩) hbl).trans (hbc 4 (by omega))
        have q_5 : wr.cell? ⟨b, off + k * 8 + 5, none⟩ = some (.bool a.hedge) := (Hb.out.cell (p := ⟨b, off + k * 8 + 5, none⟩) hbl).trans (hbc 5 (by omega))
        have q_6 : wr.cell? ⟨b, off + k * 8 + 6, none⟩ = some (.bool a.probe) := (Hb.out.cell (p := ⟨b, off + k * 8 + 6, none⟩) hbl).trans (hbc 6 (by omega))
        have q_7 : wr.cell? ⟨b, off + k * 8 + 7, none⟩ = some (.bool a.over) := (Hb.out.cell (p := ⟨b, off + k * 8 + 7, none⟩) hbl).trans (hbc 7 (by omega))
        clear hbc
        have hbw : b < wr.heap.size := Nat.lt_of_lt_of_le hbl Hb.out.size
        clear hx
        cases ho : a.over
        · cases hh : a.hedge
          all_goals
            rw [ho] at q_7
            rw [hh] at q_5
            rw [ho, hh] at hs
            have Hs := K.H.mk hs
            clear hs ho hh
            go_wp2
            go_roundw
            case rel => exact ⟨k + 1, by omega, by go_num, by rw [Hs.out.1]; rfl, by rw [Hs.out.2]; simp, HX, HS, Hb⟩
            case measure => simp [intOf]; omega
        · rw [ho] at q_7 hs
          have Hs := K.H.mk hs
          clear hs ho
          go_wp2
          go_roundw
          case rel => exact ⟨k + 1, by omega, by go_num, by rw [Hs.out.1]; simp, by rw [Hs.out.2]; simp, HX, HS, Hb⟩
          case measure => simp [intOf]; omega
      · obtain rfl : k = xs.length := by omega
        have hp := HPF.out
        rw [show nO ⟨num, op, once, at0, dl, nx, xs⟩ = nOut (outT xs xs.length) from rfl, show hO ⟨num, op, once, at0, dl, nx, xs⟩ = hOut (outT xs xs.length) from rfl] at hp
        clear HPF
        generalize nOut (outT xs xs.length) = N at *
        generalize hOut (outT xs xs.length) = M at *
        (try simp only at hp)
        rcases hp with ⟨rfl, e1, e2⟩ | ⟨rfl, e1, e2⟩ | ⟨rfl, e1, e2, e3, e4, e5⟩ | ⟨rfl, e1, e2, e3, e4, e5⟩ | ⟨rfl, e1⟩
        · have d1 : decide (tick < dl) = true := by simpa using e1
          have d2 : decide ((0 : Int) < (xs.length : Int)) = true := by simp; omega
          have d2n : decide (0 < xs.length) = true := by simpa using e2
          clear e1 e2
          go_wp2
          go_ret
          exact ⟨rfl, Hb.out⟩
        · have d1 : decide (tick < dl) = true := by simpa using e1
          have d2 : ((xs.length : Int) == 0) = true := by simp; exact List.eq_nil_of_length_eq_zero e2
          clear e1 e2
          go_wp2
          go_ret
          exact ⟨rfl, Hb.out⟩
        · have d1 : decide (tick < dl) = true := by simpa using e1
          have d2 : decide ((0 : Int) < (xs.length : Int)) = true := by simp; omega
          have d2n : decide (0 < xs.length) = true := by simpa using e2
          have d3 : decide ((xs.length : Int) < s.att) = true := by simpa using e3
          have d4 : (N == 0) = true := by simpa using e4
          have d5 : decide (nx ≤ tick) = true := by simpa using e5
          clear e1 e2 e3 e4 e5
          go_wp2
          go_ret
          exact ⟨rfl, Hb.out⟩
        · have d1 : decide (tick < dl) = true := by simpa using e1
          have d3 : decide ((xs.length : Int) < s.att) = true := by simpa using e2
          have d4 : decide (0 < N) = true := by simpa using e3
          have d5 : decide (M < s.hed) = true := by simpa using e5
          subst e4
          clear e1 e2 e3 e5
          go_wp2
          go_ret
          exact ⟨rfl, Hb.out⟩
        · have d1 : decide (dl ≤ tick) = true := by simpa using e1
          clear e1
          go_wp2
          go_ret
          exact ⟨rfl, Hb.out⟩
  · have hd : (eCall x s != 0) = true := by simpa using h
    rw [show oPlan x s tick wait = 0 by unfold oPlan; rw [if_neg h]] at GP
    generalize eCall x s = y at *
    clear hr h
    go_enter Try.func3, Try.ntmps3
    go_wp2_with (first
      | (go_at_call 10; (with_reducible refine (alive_c _).mono ?_); rintro e W1 ⟨rfl, hb1⟩; obtain ⟨hB1, hC1, hF1, hZ1⟩ := K.bel_facts hb1; clear hb1; have hZZ := hZ1; (try simp at hZZ); have hz1_0 : w.heap.size < W1.heap.size := (by omega); have hz1_1 : w.heap.size + 1 < W1.heap.size := (by omega); clear hZZ)
      | (go_at_call 11; (with_reducible refine (GP.out _ (by repeat (first | (with_reducible exact Below.refl _ _) | (with_reducible refine K.b_bel ?_ (by assumption)) | (with_reducible refine K.b_alloc ?_ _) | (with_reducible refine K.b_drewN ?_ _) | (with_reducible refine K.b_drew ?_) | (with_reducible refine K.b_set ?_ (by first | omega | (simp <;> omega)) _) | (with_reducible refine K.b_only ?_ (by assumption) (by first | omega | (simp <;> omega)))))).mono ?_); rintro e W2 ⟨rfl, hb2⟩; obtain ⟨hB2, hC2, hF2, hZ2⟩ := K.bel_facts hb2; clear hb2)
      | (go_at_call 12; (with_reducible refine (num_c _ _).mono ?_); rintro e w' ⟨rfl, hw'⟩; have hw'2 := Eq.symm hw'; clear hw'; subst hw'2))
    go_ret
    exact ⟨rfl, (by repeat (first | (with_reducible exact Below.refl _ _) | (with_reducible refine K.b_bel ?_ (by assumption)) | (with_reducible refine K.b_alloc ?_ _) | (with_reducible refine K.b_drewN ?_ _) | (with_reducible refine K.b_drew ?_) | (with_reducible refine K.b_set ?_ (by first | omega | (simp <;> omega)) _) | (with_reducible refine K.b_only ?_ (by assumption) (by first | omega | (simp <;> omega)))))⟩
end Go.Proofs.Ytfepjpjkamlneaa.Cl
