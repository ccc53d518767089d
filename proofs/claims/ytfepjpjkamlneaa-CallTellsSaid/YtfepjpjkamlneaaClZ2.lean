/- Calls: the reference's Slow, Over. -/
import Derived.Test.YtfepjpjkamlneaaClZ
import Derived.Test.YtfepjpjkamlneaaClT
import Derived.Test.YtfepjpjkamlneaaClW
set_option linter.unusedVariables false
namespace Go.Proofs.Ytfepjpjkamlneaa.Cl
open Go.RowKit Go.Proofs.Ytfepjpjkamlneaa
attribute [local go_sem] K.max2_int K.min2_int K.max_two K.min_two K.max_three K.min_three
set_option linter.unusedSimpArgs false
set_option maxRecDepth 100000 in
set_option maxHeartbeats 4000000 in
theorem rSlow_bad (x : Cal) (s : Set) (tick : Int) (A : Option Addr) (n c : Nat) (w : World) (hr : Sl.Rds w 8 A n (x.l.flatMap Att.cs)) (h : eCall x s ≠ 0) : Calls Try.prog 29 #[x.a A n c, s.a, .int .i64 tick] w (SlowPost w [] (eCall x s)) := by
  have GA := K.H.mk (fun (W : World) (hb : Below w.heap.size w W) => rCheck_c x s A n c W (hr.below hb))
  have hd : (eCall x s != 0) = true := by simpa using h
  generalize eCall x s = y at *
  clear hr h
  go_enter Try.func29, Try.ntmps29
  go_wp2_with (first | (go_at_call 31; (with_reducible refine (GA.out _ (by repeat (first | (with_reducible exact Below.refl _ _) | (with_reducible refine K.b_bel ?_ (by assumption)) | (with_reducible refine K.b_alloc ?_ _) | (with_reducible refine K.b_drewN ?_ _) | (with_reducible refine K.b_drew ?_) | (with_reducible refine K.b_set ?_ (by first | omega | (simp <;> omega)) _) | (with_reducible refine K.b_only ?_ (by assumption) (by first | omega | (simp <;> omega)))))).mono ?_); rintro e W1 ⟨rfl, hb1⟩; obtain ⟨hB1, hC1, hF1, hZ1⟩ := K.bel_facts hb1; clear hb1))
  go_ret2
  exact ⟨_, rfl, World.ownsRow_nil _ _ _ _, (by repeat (first | (with_reducible exact Below.refl _ _) | (with_reducible refine K.b_bel ?_ (by assumption)) | (with_reducible refine K.b_alloc ?_ _) | (with_reducible refine K.b_drewN ?_ _) | (with_reducible refine K.b_drew ?_) | (with_reducible refine K.b_set ?_ (by first | omega | (simp <;> omega)) _) | (with_reducible refine K.b_only ?_ (by assumption) (by first | omega | (simp <;> omega)))))⟩
set_option maxRecDepth 100000 in
set_option maxHeartbeats 8000000 in
theorem rSlow_ok (x : Cal) (s : Set) (tick : Int) (A : Option Addr) (n c : Nat) (w : World) (hr : Sl.Rds w 8 A n (x.l.flatMap Att.cs)) (h : eCall x s = 0) : Calls Try.prog 29 #[x.a A n c, s.a, .int .i64 tick] w (SlowPost w (slowL s tick (outT x.l x.l.length)) 0) := by
  obtain rfl := hr.length Att.cs_len (by omega)
  have h16 := ok_len h
  have GA := K.H.mk (fun (W : World) (hb : Below w.heap.size w W) => rCheck_c x s A x.l.length c W (hr.below hb))
  rw [h] at GA
  have Hr := K.H.mk hr
  have hle := hr.le
  clear hr h
  
  
  
  go_enter Try.func29, Try.ntmps29
  go_wp2_with (first | (go_at_call 31; (with_reducible refine (GA.out _ (by repeat (first | (with_reducible exact Below.refl _ _) | (with_reducible refine K.b_bel ?_ (by assumption)) | (with_reducible refine K.b_alloc ?_ _) | (with_reducible refine K.b_drewN ?_ _) | (with_reducible refine K.b_drew ?_) | (with_reducible refine K.b_set ?_ (by first | omega | (simp <;> omega)) _) | (with_reducible refine K.b_only ?_ (by assumption) (by first | omega | (simp <;> omega)))))).mono ?_); rintro e W1 ⟨rfl, hb1⟩; obtain ⟨hB1, hC1, hF1, hZ1⟩ := K.bel_facts hb1; clear hb1; have kX1 : K.At W1 w.heap.size 26 (x.c A x.l.length c) := (by refine K.At.cast (by repeat (first | (with_reducible refine K.At.new' _ _ _ _ (by first | rfl | (simp; done) | omega)) | (with_reducible apply K.At.over hB1) | (with_reducible apply K.At.set) | (with_reducible apply K.At.alloc) | (with_reducible apply K.At.drewN) | (with_reducible apply K.At.drew) | (with_reducible apply K.At.far) | omega | (simp <;> omega))) ?_; rfl); obtain ⟨hc_kX1, hf_kX1, hl_kX1⟩ := K.At.facts kX1; have kS1 : K.At W1 (w.heap.size + 1) 30 s.c := (by refine K.At.cast (by repeat (first | (with_reducible refine K.At.new' _ _ _ _ (by first | rfl | (simp; done) | omega)) | (with_reducible apply K.At.over hB1) | (with_reducible apply K.At.set) | (with_reducible apply K.At.alloc) | (with_reducible apply K.At.drewN) | (with_reducible apply K.At.drew) | (with_reducible apply K.At.far) | omega | (simp <;> omega))) ?_; rfl); obtain ⟨hc_kS1, hf_kS1, hl_kS1⟩ := K.At.facts kS1))
  have hb1 : Below w.heap.size w W1 := (by repeat (first | (with_reducible exact Below.refl _ _) | (with_reducible refine K.b_bel ?_ (by assumption)) | (with_reducible refine K.b_alloc ?_ _) | (with_reducible refine K.b_drewN ?_ _) | (with_reducible refine K.b_drew ?_) | (with_reducible refine K.b_set ?_ (by first | omega | (simp <;> omega)) _) | (with_reducible refine K.b_only ?_ (by assumption) (by first | omega | (simp <;> omega)))))
  have Hb1 := K.H.mk hb1
  clear hb1 GA
  go_loopw [9, 10] (fun v i wr => ∃ k : Nat, k ≤ x.l.length ∧ i = .int .i64 k ∧ K.At wr w.heap.size 26 (x.c A x.l.length c) ∧ K.At wr (w.heap.size + 1) 30 s.c ∧ wr.ownsRow w.heap.size 3 1 v (slowL s tick (outT x.l k)).length ((slowL s tick (outT x.l k)).map (Value.int .i64)) ∧ K.H (Below w.heap.size w wr)) (fun _ i _ => x.l.length - (intOf i).toNat)
  case atStart => exact ⟨0, by omega, rfl, kX1, kS1, World.ownsRow_nil _ _ _ _, Hb1⟩
  case round =>
    clear kX1 kS1 Hb1 hc_kX1 hf_kX1 hl_kX1 hc_kS1 hf_kS1 hl_kS1
    ((try clear hC1); (try clear hF1); (try clear hZ1); (try clear hc1); (try clear hf1); (try clear hl1); (try clear hB1); (try clear hO1); (try clear hA1); (try clear hz1_0); (try clear hz1_1); (try clear hz1_2); (try clear hz1_3))
    obtain ⟨k, hk, rfl, hX, hS, hown, Hb⟩ := hrel
    obtain ⟨hc5, hf5, hl5⟩ := K.At.facts hX
    obtain ⟨hc6, hf6, hl6⟩ := K.At.facts hS
    by_cases hlt : k < x.l.length
    · obtain ⟨a, hx⟩ : ∃ a, x.l[k]? = some a := ⟨_, List.getElem?_eq_getElem hlt⟩
      have hln : (slowL s tick (outT x.l k)).length ≤ 16 := by have := slowL_len s tick (outT x.l k); have := outT_len x.l k; omega
      obtain ⟨b, off, rfl, hbl, hbc⟩ := Sl.Rds.elem Hr.out Att.cs_len (by omega) hx
      have q_0 : wr.cell? ⟨b, off + k * 8, none⟩ = some (.int .i64 a.b) := (Hb.out.cell (p := ⟨b, off + k * 8 + 0, none⟩) hbl).trans (hbc 0 (by omega))
      have q_1 : wr.cell? ⟨b, off + k * 8 + 1, none⟩ = some (.int .i64 a.i) := (Hb.out.cell (p := ⟨b, off + k * 8 + 1, none⟩) hbl).trans (hbc 1 (by omega))
      have q_2 : wr.cell? ⟨b, off + k * 8 + 2, none⟩ = some (.int .i64 a.s) := (Hb.out.cell (p := ⟨b, off + k * 8 + 2, none⟩) hbl).trans (hbc 2 (by omega))
      have q_3 : wr.cell? ⟨b, off + k * 8 + 3, none⟩ = some (.int .i64 a.q) := (Hb.out.cell (p := ⟨b, off + k * 8 + 3, none⟩) hbl).trans (hbc 3 (by omega))
      have q_4 : wr.cell? ⟨b, off + k * 8 + 4, none⟩ = some (.int .i64 a.t) := (Hb.out.cell (p := ⟨b, off + k * 8 + 4, none⟩) hbl).trans (hbc 4 (by omega))
      have q_5 : wr.cell? ⟨b, off + k * 8 + 5, none⟩ = some (.bool a.hedge) := (Hb.out.cell (p := ⟨b, off + k * 8 + 5, none⟩) hbl).trans (hbc 5 (by omega))
      have q_6 : wr.cell? ⟨b, off + k * 8 + 6, none⟩ = some (.bool a.probe) := (Hb.out.cell (p := ⟨b, off + k * 8 + 6, none⟩) hbl).trans (hbc 6 (by omega))
      have q_7 : wr.cell? ⟨b, off + k * 8 + 7, none⟩ = some (.bool a.over) := (Hb.out.cell (p := ⟨b, off + k * 8 + 7, none⟩) hbl).trans (hbc 7 (by omega))
      clear hbc
      have hbw : b < wr.heap.size := Nat.lt_of_lt_of_le hbl Hb.out.size
      cases ho : a.over
      · rw [ho] at q_7
        have hadd : slowL s tick (outT x.l (k + 1)) = slowL s tick (outT x.l k) ++ (if slowB s tick (k, a) = true then [(k : Int)] else []) := by rw [outT_out hx ho, slowL_add]
        clear hx ho
        cases hh : slowB s tick (k, a)
        · rw [hh] at hadd
          have Hadd := K.H.mk hadd
          have hd : decide (wrap64 (a.t + s.tmo) ≤ tick) = false := hh
          have hd2 : decide (IntKind.i64.wrap (a.t + s.tmo) ≤ tick) = false := by rw [IntWalk.i64_left]; exact hh
          clear hh hadd
          go_wp2
          refine K.wp_region_ext_lit (by kernel_rfl) (by kernel_rfl) ?_
          repeat (any_goals (first | go_big_quiet_skip | quiet_step (fail) | (refine wpQuiet_step (fun K hK => ?_); go_simp; split <;> (refine hK _ ?_; clear hK K))))
          all_goals (refine wpQuiet_nil ?_; intro W9 hW9; obtain ⟨hB9, hC9, hF9, hZ9⟩ := K.ext_facts hW9; clear hW9; have hX_9 := K.At.bel hX hB9; have hS_9 := K.At.bel hS hB9)
          go_wp2
          go_roundw
          case rel => exact ⟨k + 1, by omega, by go_num, hX_9, hS_9, by rw [Hadd.out]; simpa using Sl.own_over hown hB9, ⟨(by repeat (first | (with_reducible exact Below.refl _ _) | (with_reducible exact Hb.out) | (with_reducible refine K.b_bel ?_ (by assumption)) | (with_reducible refine K.b_alloc ?_ _) | (with_reducible refine K.b_drewN ?_ _) | (with_reducible refine K.b_drew ?_) | (with_reducible refine K.b_set ?_ (by first | omega | (simp <;> omega)) _) | (with_reducible refine K.b_only ?_ (by assumption) (by first | omega | (simp <;> omega)))))⟩⟩
          case measure => simp [intOf]; omega
        · rw [hh] at hadd
          have Hadd := K.H.mk hadd
          have hd : decide (wrap64 (a.t + s.tmo) ≤ tick) = true := hh
          have hd2 : decide (IntKind.i64.wrap (a.t + s.tmo) ≤ tick) = true := by rw [IntWalk.i64_left]; exact hh
          clear hh hadd
          go_wp2
          refine K.wp_region_ext_lit (by kernel_rfl) (by kernel_rfl) ?_
          repeat (any_goals (first | go_big_quiet_skip | quiet_step (fail) | (refine wpQuiet_step (fun K hK => ?_); go_simp; split <;> (refine hK _ ?_; clear hK K))))
          all_goals (refine wpQuiet_nil ?_; intro W9 hW9; obtain ⟨hB9, hC9, hF9, hZ9⟩ := K.ext_facts hW9; clear hW9; have hX_9 := K.At.bel hX hB9; have hS_9 := K.At.bel hS hB9)
          have hown9 := Sl.own_over hown hB9
          have hw9 : w.heap.size ≤ W9.heap.size := by have := Hb.out.size; omega
          go_wp2_with (first | (at_builtin; refine Sl.app1 (news := [.int .i64 k]) rfl _ _ 54 3 (.int .i64 0) rfl Try.underlying54 (by kernel_rfl : (Try.prog.info? 3).map (fun i => (i.zero, i.size, i.bytes)) = some (some (.int .i64 0), 1, 8)) rfl (by decide) (by decide) rfl ((hown9).alloc _) rfl rfl (Sl.new_cells _ _ _ _ (by first | rfl | simp)) (by simp [Value.oneCell']) (by omega) (by simp <;> omega) ?_; intro v8 W8 hown8 hgr8))
          have hqx := Sl.own_ne hown9 hX_9 (by decide)
          have hqs := Sl.own_ne hown9 hS_9 (by decide)
          go_roundw
          case rel =>
            refine ⟨k + 1, by omega, by go_num, Sl.at_grown (hX_9.alloc _) hgr8 hqx, Sl.at_grown (hS_9.alloc _) hgr8 hqs, by rw [Hadd.out]; simpa using hown8, ⟨?_⟩⟩
            exact Sl.below_grown (K.b_alloc (K.b_bel Hb.out hB9) _) hgr8 (fun k hk => Sl.own_base hown9 k hk)
          case measure => simp [intOf]; omega
      · rw [ho] at q_7
        have hadd : slowL s tick (outT x.l (k + 1)) = slowL s tick (outT x.l k) := by rw [outT_over hx ho]
        have Hadd := K.H.mk hadd
        clear hx ho hadd
        go_wp2
        refine K.wp_region_ext_lit (by kernel_rfl) (by kernel_rfl) ?_
        repeat (any_goals (first | go_big_quiet_skip | quiet_step (fail) | (refine wpQuiet_step (fun K hK => ?_); go_simp; split <;> (refine hK _ ?_; clear hK K))))
        all_goals (refine wpQuiet_nil ?_; intro W9 hW9; obtain ⟨hB9, hC9, hF9, hZ9⟩ := K.ext_facts hW9; clear hW9; have hX_9 := K.At.bel hX hB9; have hS_9 := K.At.bel hS hB9)
        go_wp2
        go_roundw
        case rel => exact ⟨k + 1, by omega, by go_num, hX_9, hS_9, by rw [Hadd.out]; exact Sl.own_over hown hB9, ⟨(by repeat (first | (with_reducible exact Below.refl _ _) | (with_reducible exact Hb.out) | (with_reducible refine K.b_bel ?_ (by assumption)) | (with_reducible refine K.b_alloc ?_ _) | (with_reducible refine K.b_drewN ?_ _) | (with_reducible refine K.b_drew ?_) | (with_reducible refine K.b_set ?_ (by first | omega | (simp <;> omega)) _) | (with_reducible refine K.b_only ?_ (by assumption) (by first | omega | (simp <;> omega)))))⟩⟩
        case measure => simp [intOf]; omega
    · obtain rfl : k = x.l.length := by omega
      go_wp2
      go_ret2
      exact ⟨_, rfl, hown, Hb.out⟩
theorem rSlow_c (x : Cal) (s : Set) (tick : Int) (A : Option Addr) (n c : Nat) (w : World) (hr : Sl.Rds w 8 A n (x.l.flatMap Att.cs)) : Calls Try.prog 29 #[x.a A n c, s.a, .int .i64 tick] w (SlowPost w (oSlow x s tick) (eCall x s)) := by
  unfold oSlow
  by_cases h : eCall x s = 0
  · rw [if_pos h, h]; exact rSlow_ok x s tick A n c w hr h
  · rw [if_neg h]; exact rSlow_bad x s tick A n c w hr h
end Go.Proofs.Ytfepjpjkamlneaa.Cl
