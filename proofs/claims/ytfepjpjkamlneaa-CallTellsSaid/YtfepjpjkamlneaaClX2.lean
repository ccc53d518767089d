/- Calls: the reference's Check, where the head may be. -/
import Derived.Test.YtfepjpjkamlneaaClX
set_option linter.unusedVariables false
namespace Go.Proofs.Ytfepjpjkamlneaa.Cl
open Go.RowKit Go.Proofs.Ytfepjpjkamlneaa
attribute [local go_sem] K.max2_int K.min2_int K.max_two K.min_two K.max_three K.min_three
set_option linter.unusedSimpArgs false
set_option maxRecDepth 100000 in
set_option maxHeartbeats 8000000 in
theorem rCheck_yt (num : Int) (op : Op) (at0 dl nx : Int) (xs : List Att) (s : Set) (A : Option Addr) (n c : Nat) (w : World) (hr : Sl.Rds w 8 A n (xs.flatMap Att.cs)) (h : s.ok) (h2 : headP (⟨num, op, true, at0, dl, nx, xs⟩ : Cal) s) :
    Calls Try.prog 31 #[(⟨num, op, true, at0, dl, nx, xs⟩ : Cal).a A n c, s.a] w fun e w' => e = .returned (.int .i64 (eAll (⟨num, op, true, at0, dl, nx, xs⟩ : Cal))) ∧ Below w.heap.size w w' := by
  obtain rfl := hr.length Att.cs_len (by omega)
  have hle := hr.le
  have Hr := K.H.mk hr
  have GS := K.H.mk (fun W => rSets_c s W)
  rw [eSet_0 h] at GS
  have GC := K.H.mk (fun W => rOnce_c op.what W)
  have GO := K.H.mk (fun W => rOp_c op W)
  unfold headP at h2
  simp only at h2
  obtain ⟨⟨a1, a2⟩, a3, a4, ⟨a5, a6⟩, ⟨a7, a8⟩, ⟨a9, a10⟩, a11⟩ := h2
  rw [a3] at GO
  rw [← a4] at GC
  generalize eOnce op.what = eo at *
  have d1 : decide (num < 0) = false := by simpa using a1
  have d2 : decide (1048576 < num) = false := by simpa using a2
  have d4 : decide (at0 < 0) = false := by simpa using a5
  have d5 : decide (536870912 < at0) = false := by simpa using a6
  have d6 : decide (nx < 0) = false := by simpa using a7
  have d7 : decide (536870912 < nx) = false := by simpa using a8
  have d8 : decide (dl < at0) = false := by simpa using a9
  have d9 : decide (536870912 < dl) = false := by simpa using a10
  have d10 : decide (s.att < (xs.length : Int)) = false := by simpa using a11
  clear h hr a1 a2 a3 a4 a5 a6 a7 a8 a9 a10 a11
  
  
  
  go_enter Try.func31, Try.ntmps31
  go_wp2_with (first
    | (go_at_call 33; (with_reducible refine (GS.out _).mono ?_); rintro e W1 ⟨rfl, hb1⟩; obtain ⟨hB1, hC1, hF1, hZ1⟩ := K.bel_facts hb1; clear hb1; have kX1 : K.At W1 w.heap.size 26 ((⟨num, op, true, at0, dl, nx, xs⟩ : Cal).c A xs.length c) := (by refine K.At.cast (by repeat (first | (with_reducible refine K.At.new' _ _ _ _ (by first | rfl | (simp; done) | omega)) | (with_reducible apply K.At.over hB1) | (with_reducible apply K.At.set) | (with_reducible apply K.At.alloc) | (with_reducible apply K.At.drewN) | (with_reducible apply K.At.drew) | (with_reducible apply K.At.far) | omega | (simp <;> omega))) ?_; rfl); obtain ⟨hc_kX1, hf_kX1, hl_kX1⟩ := K.At.facts kX1; have kS1 : K.At W1 (w.heap.size + 1) 30 s.c := (by refine K.At.cast (by repeat (first | (with_reducible refine K.At.new' _ _ _ _ (by first | rfl | (simp; done) | omega)) | (with_reducible apply K.At.over hB1) | (with_reducible apply K.At.set) | (with_reducible apply K.At.alloc) | (with_reducible apply K.At.drewN) | (with_reducible apply K.At.drew) | (with_reducible apply K.At.far) | omega | (simp <;> omega))) ?_; rfl); obtain ⟨hc_kS1, hf_kS1, hl_kS1⟩ := K.At.facts kS1)
    | (go_at_call 40; (with_reducible refine (GC.out _).mono ?_); rintro e w' ⟨rfl, hw'⟩; have hw'2 := Eq.symm hw'; clear hw'; subst hw'2)
    | (go_at_call 39; (with_reducible refine (GO.out _).mono ?_); rintro e W2 ⟨rfl, hb2⟩; obtain ⟨hB2, hC2, hF2, hZ2⟩ := K.bel_facts hb2; clear hb2; have kX2 : K.At W2 w.heap.size 26 ((⟨num, op, true, at0, dl, nx, xs⟩ : Cal).c A xs.length c) := (by refine K.At.cast (by repeat (first | (with_reducible exact kX1) | (with_reducible refine K.At.new' _ _ _ _ (by first | rfl | (simp; done) | omega)) | (with_reducible apply K.At.over hB2) | (with_reducible apply K.At.set) | (with_reducible apply K.At.alloc) | (with_reducible apply K.At.drewN) | (with_reducible apply K.At.drew) | (with_reducible apply K.At.far) | omega | (simp <;> omega))) ?_; rfl); obtain ⟨hc_kX2, hf_kX2, hl_kX2⟩ := K.At.facts kX2; clear hc_kX1 hf_kX1 hl_kX1; have kS2 : K.At W2 (w.heap.size + 1) 30 s.c := (by refine K.At.cast (by repeat (first | (with_reducible exact kS1) | (with_reducible refine K.At.new' _ _ _ _ (by first | rfl | (simp; done) | omega)) | (with_reducible apply K.At.over hB2) | (with_reducible apply K.At.set) | (with_reducible apply K.At.alloc) | (with_reducible apply K.At.drewN) | (with_reducible apply K.At.drew) | (with_reducible apply K.At.far) | omega | (simp <;> omega))) ?_; rfl); obtain ⟨hc_kS2, hf_kS2, hl_kS2⟩ := K.At.facts kS2; clear hc_kS1 hf_kS1 hl_kS1))
  have hb3 : Below w.heap.size w W2 := (by repeat (first | (with_reducible exact Below.refl _ _) | (with_reducible refine K.b_bel ?_ (by assumption)) | (with_reducible refine K.b_alloc ?_ _) | (with_reducible refine K.b_drewN ?_ _) | (with_reducible refine K.b_drew ?_) | (with_reducible refine K.b_set ?_ (by first | omega | (simp <;> omega)) _) | (with_reducible refine K.b_only ?_ (by assumption) (by first | omega | (simp <;> omega)))))
  have Hb3 := K.H.mk hb3
  clear d1 d2 d4 d5 d6 d7 d8 d9 d10 GS GC GO hb3
  go_loopw [7, 8] (fun l i wr => ∃ k : Nat, k ≤ xs.length ∧ l = .int .i64 (lastI (⟨num, op, true, at0, dl, nx, xs⟩ : Cal) k) ∧ i = .int .i64 k ∧ K.At wr w.heap.size 26 ((⟨num, op, true, at0, dl, nx, xs⟩ : Cal).c A xs.length c) ∧ K.At wr (w.heap.size + 1) 30 s.c ∧ K.H (∀ j, j < k → okI (⟨num, op, true, at0, dl, nx, xs⟩ : Cal) j = true) ∧ K.H (Below w.heap.size w wr)) (fun _ i _ => xs.length - (intOf i).toNat)
  case atStart => exact ⟨0, by omega, rfl, rfl, kX2, kS2, ⟨fun j h => by omega⟩, Hb3⟩
  case round =>
    clear kX2 kS2 Hb3
    ((try clear hC2); (try clear hF2); (try clear hZ2); (try clear hc2); (try clear hf2); (try clear hl2); (try clear hB2); (try clear hO2); (try clear hA2); (try clear hz2_0); (try clear hz2_1); (try clear hz2_2); (try clear hz2_3); (try clear hz2_1_0); (try clear hz2_1_1); (try clear hC1); (try clear hF1); (try clear hZ1); (try clear hc1); (try clear hf1); (try clear hl1); (try clear hB1); (try clear hO1); (try clear hA1); (try clear hz1_0); (try clear hz1_1); (try clear hz1_2); (try clear hz1_3); (try clear kX1); (try clear kS1); (try clear hc_kX2); (try clear hf_kX2); (try clear hl_kX2); (try clear hc_kS2); (try clear hf_kS2); (try clear hl_kS2))
    obtain ⟨k, hk, rfl, rfl, hX, hS, Hf, Hb⟩ := hrel
    obtain ⟨hc5, hf5, hl5⟩ := K.At.facts hX
    by_cases hlt : k < xs.length
    · obtain ⟨a, hx⟩ : ∃ a, xs[k]? = some a := ⟨_, List.getElem?_eq_getElem hlt⟩
      obtain ⟨f, hx0⟩ : ∃ f, xs[0]? = some f := ⟨_, List.getElem?_eq_getElem (by omega)⟩
      have HO := K.H.mk (okI_odd (x := (⟨num, op, true, at0, dl, nx, xs⟩ : Cal)) hx hx0)
      have HL := K.H.mk (lastI_succ (x := (⟨num, op, true, at0, dl, nx, xs⟩ : Cal)) hx)
      have GP := K.H.mk (fun h p o W => rPin2_c a f h p o W)
      have h00 : (0 : Int) < xs.length := by omega
      have h0n : 0 < xs.length := by omega
      generalize lastI (⟨num, op, true, at0, dl, nx, xs⟩ : Cal) k = L at *
      obtain ⟨b, off, rfl, hbl, hbc⟩ := Sl.Rds.elem Hr.out Att.cs_len (by omega) hx
      have q_0 : wr.cell? ⟨b, off + k * 8, none⟩ = some (.int .i64 a.b) := (Hb.out.cell (p := ⟨b, off + k * 8 + 0, none⟩) hbl).trans (hbc 0 (by omega))
      have q_1 : wr.cell? ⟨b, off + k * 8 + 1, none⟩ = some (.int .i64 a.i) := (Hb.out.cell (p := ⟨b, off + k * 8 + 1, none⟩) hbl).trans (hbc 1 (by omega))
      have q_2 : wr.cell? ⟨b, off + k * 8 + 2, none⟩ = some (.int .i64 a.s) := (Hb.out.cell (p := ⟨b, off + k * 8 + 2, none⟩) hbl).trans (hbc 2 (by omega))
      have q_3 : wr.cell? ⟨b, off + k * 8 + 3, none⟩ = some (.int .i64 a.q) := (Hb.out.cell (p := ⟨b, off + k * 8 + 3, none⟩) hbl).trans (hbc 3 (by omega))
      have q_4 : wr.cell? ⟨b, off + k * 8 + 4, none⟩ = some (.int .i64 a.t) := (Hb.out.cell (p := ⟨b, off + k * 8 + 4, none⟩) hbl).trans (hbc 4 (by omega))
      have q_5 : wr.cell? ⟨b, off + k * 8 + 5, none⟩ = some (.bool a.hedge) := (Hb.out.cell (p := ⟨b, off + k * 8 + 5, none⟩) hbl).trans (hbc 5 (by omega))
      have q_6 : wr.cell? ⟨b, off + k * 8 + 6, none⟩ = some (.bool a.probe) := (Hb.out.cell (p := ⟨b, off + k * 8 + 6, none⟩) hbl).trans (hbc 6 (by omega))
      have q_7 : wr.cell? ⟨b, off + k * 8 + 7, none⟩ = some (.bool a.over) := (Hb.out.cell (p := ⟨b, off + k * 8 + 7, none⟩) hbl).trans (hbc 7 (by omega))
      clear hbc
      have hbw : b < wr.heap.size := Nat.lt_of_lt_of_le hbl Hb.out.size
      clear hx
      go_wp2
      refine K.wp_gen (fun W => K.At W w.heap.size 26 ((⟨num, op, true, at0, dl, nx, xs⟩ : Cal).c (some ⟨b, off, none⟩) xs.length c) ∧ K.At W (w.heap.size + 1) 30 s.c ∧ K.At W wr.heap.size 37 #[.int .i64 a.b, .int .i64 a.i, .int .i64 a.s, .int .i64 a.q, .int .i64 a.t, .bool a.hedge, .bool a.probe, .bool a.over] ∧ Below w.heap.size w W) ⟨(by refine K.At.cast (by repeat (first | (with_reducible exact hX) | (with_reducible refine K.At.new' _ _ _ _ (by first | rfl | (simp; done) | omega)) | (with_reducible apply K.At.set) | (with_reducible apply K.At.alloc) | (with_reducible apply K.At.drewN) | (with_reducible apply K.At.drew) | (with_reducible apply K.At.far) | omega | (simp <;> omega))) ?_; rfl), (by refine K.At.cast (by repeat (first | (with_reducible exact hS) | (with_reducible refine K.At.new' _ _ _ _ (by first | rfl | (simp; done) | omega)) | (with_reducible apply K.At.set) | (with_reducible apply K.At.alloc) | (with_reducible apply K.At.drewN) | (with_reducible apply K.At.drew) | (with_reducible apply K.At.far) | omega | (simp <;> omega))) ?_; rfl), (by refine K.At.cast (by repeat (first | (with_reducible refine K.At.new' _ _ _ _ (by first | rfl | (simp; done) | omega)) | (with_reducible apply K.At.set) | (with_reducible apply K.At.alloc) | (with_reducible apply K.At.drewN) | (with_reducible apply K.At.drew) | (with_reducible apply K.At.far) | omega | (simp <;> omega))) ?_; rfl), (by repeat (first | (with_reducible exact Below.refl _ _) | (with_reducible exact Hb.out) | (with_reducible refine K.b_bel ?_ (by assumption)) | (with_reducible refine K.b_alloc ?_ _) | (with_reducible refine K.b_drewN ?_ _) | (with_reducible refine K.b_drew ?_) | (with_reducible refine K.b_set ?_ (by first | omega | (simp <;> omega)) _) | (with_reducible refine K.b_only ?_ (by assumption) (by first | omega | (simp <;> omega)))))⟩ ?_
      rintro W2 ⟨hX2, hS2, hT2, hb2⟩
      have HB2 := K.H.mk hb2
      have hbw2 : b < W2.heap.size := Nat.lt_of_lt_of_le hbl hb2.size
      obtain ⟨b3, off3, hee3, hbl3, hbc3⟩ := Sl.Rds.elem Hr.out Att.cs_len (by omega) hx0
      cases hee3
      have q3_0 : W2.cell? ⟨b, off, none⟩ = some (.int .i64 f.b) := (HB2.out.cell (p := ⟨b, off + 0, none⟩) hbl3).trans (hbc3 0 (by omega))
      have q3_1 : W2.cell? ⟨b, off + 1, none⟩ = some (.int .i64 f.i) := (HB2.out.cell (p := ⟨b, off + 1, none⟩) hbl3).trans (hbc3 1 (by omega))
      have q3_2 : W2.cell? ⟨b, off + 2, none⟩ = some (.int .i64 f.s) := (HB2.out.cell (p := ⟨b, off + 2, none⟩) hbl3).trans (hbc3 2 (by omega))
      have q3_3 : W2.cell? ⟨b, off + 3, none⟩ = some (.int .i64 f.q) := (HB2.out.cell (p := ⟨b, off + 3, none⟩) hbl3).trans (hbc3 3 (by omega))
      have q3_4 : W2.cell? ⟨b, off + 4, none⟩ = some (.int .i64 f.t) := (HB2.out.cell (p := ⟨b, off + 4, none⟩) hbl3).trans (hbc3 4 (by omega))
      have q3_5 : W2.cell? ⟨b, off + 5, none⟩ = some (.bool f.hedge) := (HB2.out.cell (p := ⟨b, off + 5, none⟩) hbl3).trans (hbc3 5 (by omega))
      have q3_6 : W2.cell? ⟨b, off + 6, none⟩ = some (.bool f.probe) := (HB2.out.cell (p := ⟨b, off + 6, none⟩) hbl3).trans (hbc3 6 (by omega))
      have q3_7 : W2.cell? ⟨b, off + 7, none⟩ = some (.bool f.over) := (HB2.out.cell (p := ⟨b, off + 7, none⟩) hbl3).trans (hbc3 7 (by omega))
      clear hbc3
      clear hX hS Hb q_0 q_1 q_2 q_3 q_4 q_5 q_6 q_7 hc5 hf5 hl5 hx0 hb2
      obtain ⟨hc5, hf5, hl5⟩ := K.At.facts hX2
      obtain ⟨hc6, hf6, hl6⟩ := K.At.facts hT2
      refine K.wp_region_ext_lit (by kernel_rfl) (by kernel_rfl) ?_
      repeat (any_goals (first | go_big_quiet_skip | quiet_step ((first | (go_at_call 51; first | (with_reducible exact K.q_same (known_c _ _))) | (go_at_call 52; first | (with_reducible exact K.q_below (GP.out _ _ _ _))))) | (refine wpQuiet_step (fun K hK => ?_); go_simp; split <;> ((try (rename_i hsp; have hsq := Int.not_le.1 hsp)); refine hK _ ?_; clear hK K))))
      all_goals (refine wpQuiet_nil ?_; intro W9 hW9; obtain ⟨hB9, hC9, hF9, hZ9⟩ := K.ext_facts hW9; clear hW9; have hX2_9 := K.At.bel hX2 hB9; have hS2_9 := K.At.bel hS2 hB9; have hT2_9 := K.At.bel hT2 hB9)
      all_goals (obtain ⟨hc7, hf7, hl7⟩ := K.At.facts hT2_9)
      all_goals go_wp2
      all_goals first
        | (go_ret; exact ⟨K.ret_int (by unfold eAll; rw [if_neg]; rw [Bool.not_eq_true]; apply allOk_f hlt; rw [HO.out]; clear HO; go_light; (try have n1 : ¬ a.t < L := by omega); (try have n2 : ¬ 536870912 < a.t := by omega); first | (simp_all; done) | (simp_all; omega)), (by repeat (first | (with_reducible exact Below.refl _ _) | (with_reducible exact HB2.out) | (with_reducible refine K.b_bel ?_ (by assumption)) | (with_reducible refine K.b_alloc ?_ _) | (with_reducible refine K.b_drewN ?_ _) | (with_reducible refine K.b_drew ?_) | (with_reducible refine K.b_set ?_ (by first | omega | (simp <;> omega)) _) | (with_reducible refine K.b_only ?_ (by assumption) (by first | omega | (simp <;> omega)))))⟩)
        | (go_roundw
           case rel =>
             refine ⟨k + 1, by omega, by rw [HL.out], by go_num, hX2_9, hS2_9, ⟨fun j hj => ?_⟩, ⟨(by repeat (first | (with_reducible exact Below.refl _ _) | (with_reducible exact HB2.out) | (with_reducible refine K.b_bel ?_ (by assumption)) | (with_reducible refine K.b_alloc ?_ _) | (with_reducible refine K.b_drewN ?_ _) | (with_reducible refine K.b_drew ?_) | (with_reducible refine K.b_set ?_ (by first | omega | (simp <;> omega)) _) | (with_reducible refine K.b_only ?_ (by assumption) (by first | omega | (simp <;> omega)))))⟩⟩
             by_cases hjk : j = k
             · rw [hjk, HO.out]; clear HO; go_light; (try have n1 : ¬ a.t < L := by omega); (try have n2 : ¬ 536870912 < a.t := by omega); first | (simp_all; done) | (simp_all; omega)
             · exact Hf.out j (by omega)
           case measure => simp [intOf]; omega)

    · obtain rfl : k = xs.length := by omega
      go_wp2
      go_ret
      exact ⟨K.ret_int (by unfold eAll; rw [if_pos (allOk_t Hf.out)]), Hb.out⟩
set_option maxRecDepth 100000 in
set_option maxHeartbeats 8000000 in
theorem rCheck_yf (num : Int) (op : Op) (at0 dl nx : Int) (xs : List Att) (s : Set) (A : Option Addr) (n c : Nat) (w : World) (hr : Sl.Rds w 8 A n (xs.flatMap Att.cs)) (h : s.ok) (h2 : headP (⟨num, op, false, at0, dl, nx, xs⟩ : Cal) s) :
    Calls Try.prog 31 #[(⟨num, op, false, at0, dl, nx, xs⟩ : Cal).a A n c, s.a] w fun e w' => e = .returned (.int .i64 (eAll (⟨num, op, false, at0, dl, nx, xs⟩ : Cal))) ∧ Below w.heap.size w w' := by
  obtain rfl := hr.length Att.cs_len (by omega)
  have hle := hr.le
  have Hr := K.H.mk hr
  have GS := K.H.mk (fun W => rSets_c s W)
  rw [eSet_0 h] at GS
  have GC := K.H.mk (fun W => rOnce_c op.what W)
  have GO := K.H.mk (fun W => rOp_c op W)
  unfold headP at h2
  simp only at h2
  obtain ⟨⟨a1, a2⟩, a3, a4, ⟨a5, a6⟩, ⟨a7, a8⟩, ⟨a9, a10⟩, a11⟩ := h2
  rw [a3] at GO
  rw [← a4] at GC
  generalize eOnce op.what = eo at *
  have d1 : decide (num < 0) = false := by simpa using a1
  have d2 : decide (1048576 < num) = false := by simpa using a2
  have d4 : decide (at0 < 0) = false := by simpa using a5
  have d5 : decide (536870912 < at0) = false := by simpa using a6
  have d6 : decide (nx < 0) = false := by simpa using a7
  have d7 : decide (536870912 < nx) = false := by simpa using a8
  have d8 : decide (dl < at0) = false := by simpa using a9
  have d9 : decide (536870912 < dl) = false := by simpa using a10
  have d10 : decide (s.att < (xs.length : Int)) = false := by simpa using a11
  clear h hr a1 a2 a3 a4 a5 a6 a7 a8 a9 a10 a11
  
  
  
  go_enter Try.func31, Try.ntmps31
  go_wp2_with (first
    | (go_at_call 33; (with_reducible refine (GS.out _).mono ?_); rintro e W1 ⟨rfl, hb1⟩; obtain ⟨hB1, hC1, hF1, hZ1⟩ := K.bel_facts hb1; clear hb1; have kX1 : K.At W1 w.heap.size 26 ((⟨num, op, false, at0, dl, nx, xs⟩ : Cal).c A xs.length c) := (by refine K.At.cast (by repeat (first | (with_reducible refine K.At.new' _ _ _ _ (by first | rfl | (simp; done) | omega)) | (with_reducible apply K.At.over hB1) | (with_reducible apply K.At.set) | (with_reducible apply K.At.alloc) | (with_reducible apply K.At.drewN) | (with_reducible apply K.At.drew) | (with_reducible apply K.At.far) | omega | (simp <;> omega))) ?_; rfl); obtain ⟨hc_kX1, hf_kX1, hl_kX1⟩ := K.At.facts kX1; have kS1 : K.At W1 (w.heap.size + 1) 30 s.c := (by refine K.At.cast (by repeat (first | (with_reducible refine K.At.new' _ _ _ _ (by first | rfl | (simp; done) | omega)) | (with_reducible apply K.At.over hB1) | (with_reducible apply K.At.set) | (with_reducible apply K.At.alloc) | (with_reducible apply K.At.drewN) | (with_reducible apply K.At.drew) | (with_reducible apply K.At.far) | omega | (simp <;> omega))) ?_; rfl); obtain ⟨hc_kS1, hf_kS1, hl_kS1⟩ := K.At.facts kS1)
    | (go_at_call 40; (with_reducible refine (GC.out _).mono ?_); rintro e w' ⟨rfl, hw'⟩; have hw'2 := Eq.symm hw'; clear hw'; subst hw'2)
    | (go_at_call 39; (with_reducible refine (GO.out _).mono ?_); rintro e W2 ⟨rfl, hb2⟩; obtain ⟨hB2, hC2, hF2, hZ2⟩ := K.bel_facts hb2; clear hb2; have kX2 : K.At W2 w.heap.size 26 ((⟨num, op, false, at0, dl, nx, xs⟩ : Cal).c A xs.length c) := (by refine K.At.cast (by repeat (first | (with_reducible exact kX1) | (with_reducible refine K.At.new' _ _ _ _ (by first | rfl | (simp; done) | omega)) | (with_reducible apply K.At.over hB2) | (with_reducible apply K.At.set) | (with_reducible apply K.At.alloc) | (with_reducible apply K.At.drewN) | (with_reducible apply K.At.drew) | (with_reducible apply K.At.far) | omega | (simp <;> omega))) ?_; rfl); obtain ⟨hc_kX2, hf_kX2, hl_kX2⟩ := K.At.facts kX2; clear hc_kX1 hf_kX1 hl_kX1; have kS2 : K.At W2 (w.heap.size + 1) 30 s.c := (by refine K.At.cast (by repeat (first | (with_reducible exact kS1) | (with_reducible refine K.At.new' _ _ _ _ (by first | rfl | (simp; done) | omega)) | (with_reducible apply K.At.over hB2) | (with_reducible apply K.At.set) | (with_reducible apply K.At.alloc) | (with_reducible apply K.At.drewN) | (with_reducible apply K.At.drew) | (with_reducible apply K.At.far) | omega | (simp <;> omega))) ?_; rfl); obtain ⟨hc_kS2, hf_kS2, hl_kS2⟩ := K.At.facts kS2; clear hc_kS1 hf_kS1 hl_kS1))
  have hb3 : Below w.heap.size w W2 := (by repeat (first | (with_reducible exact Below.refl _ _) | (with_reducible refine K.b_bel ?_ (by assumption)) | (with_reducible refine K.b_alloc ?_ _) | (with_reducible refine K.b_drewN ?_ _) | (with_reducible refine K.b_drew ?_) | (with_reducible refine K.b_set ?_ (by first | omega | (simp <;> omega)) _) | (with_reducible refine K.b_only ?_ (by assumption) (by first | omega | (simp <;> omega)))))
  have Hb3 := K.H.mk hb3
  clear d1 d2 d4 d5 d6 d7 d8 d9 d10 GS GC GO hb3
  go_loopw [7, 8] (fun l i wr => ∃ k : Nat, k ≤ xs.length ∧ l = .int .i64 (lastI (⟨num, op, false, at0, dl, nx, xs⟩ : Cal) k) ∧ i = .int .i64 k ∧ K.At wr w.heap.size 26 ((⟨num, op, false, at0, dl, nx, xs⟩ : Cal).c A xs.length c) ∧ K.At wr (w.heap.size + 1) 30 s.c ∧ K.H (∀ j, j < k → okI (⟨num, op, false, at0, dl, nx, xs⟩ : Cal) j = true) ∧ K.H (Below w.heap.size w wr)) (fun _ i _ => xs.length - (intOf i).toNat)
  case atStart => exact ⟨0, by omega, rfl, rfl, kX2, kS2, ⟨fun j h => by omega⟩, Hb3⟩
  case round =>
    clear kX2 kS2 Hb3
    ((try clear hC2); (try clear hF2); (try clear hZ2); (try clear hc2); (try clear hf2); (try clear hl2); (try clear hB2); (try clear hO2); (try clear hA2); (try clear hz2_0); (try clear hz2_1); (try clear hz2_2); (try clear hz2_3); (try clear hz2_1_0); (try clear hz2_1_1); (try clear hC1); (try clear hF1); (try clear hZ1); (try clear hc1); (try clear hf1); (try clear hl1); (try clear hB1); (try clear hO1); (try clear hA1); (try clear hz1_0); (try clear hz1_1); (try clear hz1_2); (try clear hz1_3); (try clear kX1); (try clear kS1); (try clear hc_kX2); (try clear hf_kX2); (try clear hl_kX2); (try clear hc_kS2); (try clear hf_kS2); (try clear hl_kS2))
    obtain ⟨k, hk, rfl, rfl, hX, hS, Hf, Hb⟩ := hrel
    obtain ⟨hc5, hf5, hl5⟩ := K.At.facts hX
    by_cases hlt : k < xs.length
    · obtain ⟨a, hx⟩ : ∃ a, xs[k]? = some a := ⟨_, List.getElem?_eq_getElem hlt⟩
      obtain ⟨f, hx0⟩ : ∃ f, xs[0]? = some f := ⟨_, List.getElem?_eq_getElem (by omega)⟩
      have HO := K.H.mk (okI_odd (x := (⟨num, op, false, at0, dl, nx, xs⟩ : Cal)) hx hx0)
      have HL := K.H.mk (lastI_succ (x := (⟨num, op, false, at0, dl, nx, xs⟩ : Cal)) hx)
      have GP := K.H.mk (fun h p o W => rPin2_c a f h p o W)
      have h00 : (0 : Int) < xs.length := by omega
      have h0n : 0 < xs.length := by omega
      generalize lastI (⟨num, op, false, at0, dl, nx, xs⟩ : Cal) k = L at *
      obtain ⟨b, off, rfl, hbl, hbc⟩ := Sl.Rds.elem Hr.out Att.cs_len (by omega) hx
      have q_0 : wr.cell? ⟨b, off + k * 8, none⟩ = some (.int .i64 a.b) := (Hb.out.cell (p := ⟨b, off + k * 8 + 0, none⟩) hbl).trans (hbc 0 (by omega))
      have q_1 : wr.cell? ⟨b, off + k * 8 + 1, none⟩ = some (.int .i64 a.i) := (Hb.out.cell (p := ⟨b, off + k * 8 + 1, none⟩) hbl).trans (hbc 1 (by omega))
      have q_2 : wr.cell? ⟨b, off + k * 8 + 2, none⟩ = some (.int .i64 a.s) := (Hb.out.cell (p := ⟨b, off + k * 8 + 2, none⟩) hbl).trans (hbc 2 (by omega))
      have q_3 : wr.cell? ⟨b, off + k * 8 + 3, none⟩ = some (.int .i64 a.q) := (Hb.out.cell (p := ⟨b, off + k * 8 + 3, none⟩) hbl).trans (hbc 3 (by omega))
      have q_4 : wr.cell? ⟨b, off + k * 8 + 4, none⟩ = some (.int .i64 a.t) := (Hb.out.cell (p := ⟨b, off + k * 8 + 4, none⟩) hbl).trans (hbc 4 (by omega))
      have q_5 : wr.cell? ⟨b, off + k * 8 + 5, none⟩ = some (.bool a.hedge) := (Hb.out.cell (p := ⟨b, off + k * 8 + 5, none⟩) hbl).trans (hbc 5 (by omega))
      have q_6 : wr.cell? ⟨b, off + k * 8 + 6, none⟩ = some (.bool a.probe) := (Hb.out.cell (p := ⟨b, off + k * 8 + 6, none⟩) hbl).trans (hbc 6 (by omega))
      have q_7 : wr.cell? ⟨b, off + k * 8 + 7, none⟩ = some (.bool a.over) := (Hb.out.cell (p := ⟨b, off + k * 8 + 7, none⟩) hbl).trans (hbc 7 (by omega))
      clear hbc
      have hbw : b < wr.heap.size := Nat.lt_of_lt_of_le hbl Hb.out.size
      clear hx
      go_wp2
      refine K.wp_gen (fun W => K.At W w.heap.size 26 ((⟨num, op, false, at0, dl, nx, xs⟩ : Cal).c (some ⟨b, off, none⟩) xs.length c) ∧ K.At W (w.heap.size + 1) 30 s.c ∧ K.At W wr.heap.size 37 #[.int .i64 a.b, .int .i64 a.i, .int .i64 a.s, .int .i64 a.q, .int .i64 a.t, .bool a.hedge, .bool a.probe, .bool a.over] ∧ Below w.heap.size w W) ⟨(by refine K.At.cast (by repeat (first | (with_reducible exact hX) | (with_reducible refine K.At.new' _ _ _ _ (by first | rfl | (simp; done) | omega)) | (with_reducible apply K.At.set) | (with_reducible apply K.At.alloc) | (with_reducible apply K.At.drewN) | (with_reducible apply K.At.drew) | (with_reducible apply K.At.far) | omega | (simp <;> omega))) ?_; rfl), (by refine K.At.cast (by repeat (first | (with_reducible exact hS) | (with_reducible refine K.At.new' _ _ _ _ (by first | rfl | (simp; done) | omega)) | (with_reducible apply K.At.set) | (with_reducible apply K.At.alloc) | (with_reducible apply K.At.drewN) | (with_reducible apply K.At.drew) | (with_reducible apply K.At.far) | omega | (simp <;> omega))) ?_; rfl), (by refine K.At.cast (by repeat (first | (with_reducible refine K.At.new' _ _ _ _ (by first | rfl | (simp; done) | omega)) | (with_reducible apply K.At.set) | (with_reducible apply K.At.alloc) | (with_reducible apply K.At.drewN) | (with_reducible apply K.At.drew) | (with_reducible apply K.At.far) | omega | (simp <;> omega))) ?_; rfl), (by repeat (first | (with_reducible exact Below.refl _ _) | (with_reducible exact Hb.out) | (with_reducible refine K.b_bel ?_ (by assumption)) | (with_reducible refine K.b_alloc ?_ _) | (with_reducible refine K.b_drewN ?_ _) | (with_reducible refine K.b_drew ?_) | (with_reducible refine K.b_set ?_ (by first | omega | (simp <;> omega)) _) | (with_reducible refine K.b_only ?_ (by assumption) (by first | omega | (simp <;> omega)))))⟩ ?_
      rintro W2 ⟨hX2, hS2, hT2, hb2⟩
      have HB2 := K.H.mk hb2
      have hbw2 : b < W2.heap.size := Nat.lt_of_lt_of_le hbl hb2.size
      obtain ⟨b3, off3, hee3, hbl3, hbc3⟩ := Sl.Rds.elem Hr.out Att.cs_len (by omega) hx0
      cases hee3
      have q3_0 : W2.cell? ⟨b, off, none⟩ = some (.int .i64 f.b) := (HB2.out.cell (p := ⟨b, off + 0, none⟩) hbl3).trans (hbc3 0 (by omega))
      have q3_1 : W2.cell? ⟨b, off + 1, none⟩ = some (.int .i64 f.i) := (HB2.out.cell (p := ⟨b, off + 1, none⟩) hbl3).trans (hbc3 1 (by omega))
      have q3_2 : W2.cell? ⟨b, off + 2, none⟩ = some (.int .i64 f.s) := (HB2.out.cell (p := ⟨b, off + 2, none⟩) hbl3).trans (hbc3 2 (by omega))
      have q3_3 : W2.cell? ⟨b, off + 3, none⟩ = some (.int .i64 f.q) := (HB2.out.cell (p := ⟨b, off + 3, none⟩) hbl3).trans (hbc3 3 (by omega))
      have q3_4 : W2.cell? ⟨b, off + 4, none⟩ = some (.int .i64 f.t) := (HB2.out.cell (p := ⟨b, off + 4, none⟩) hbl3).trans (hbc3 4 (by omega))
      have q3_5 : W2.cell? ⟨b, off + 5, none⟩ = some (.bool f.hedge) := (HB2.out.cell (p := ⟨b, off + 5, none⟩) hbl3).trans (hbc3 5 (by omega))
      have q3_6 : W2.cell? ⟨b, off + 6, none⟩ = some (.bool f.probe) := (HB2.out.cell (p := ⟨b, off + 6, none⟩) hbl3).trans (hbc3 6 (by omega))
      have q3_7 : W2.cell? ⟨b, off + 7, none⟩ = some (.bool f.over) := (HB2.out.cell (p := ⟨b, off + 7, none⟩) hbl3).trans (hbc3 7 (by omega))
      clear hbc3
      clear hX hS Hb q_0 q_1 q_2 q_3 q_4 q_5 q_6 q_7 hc5 hf5 hl5 hx0 hb2
      obtain ⟨hc5, hf5, hl5⟩ := K.At.facts hX2
      obtain ⟨hc6, hf6, hl6⟩ := K.At.facts hT2
      refine K.wp_region_ext_lit (by kernel_rfl) (by kernel_rfl) ?_
      repeat (any_goals (first | go_big_quiet_skip | quiet_step ((first | (go_at_call 51; first | (with_reducible exact K.q_same (known_c _ _))) | (go_at_call 52; first | (with_reducible exact K.q_below (GP.out _ _ _ _))))) | (refine wpQuiet_step (fun K hK => ?_); go_simp; split <;> ((try (rename_i hsp; have hsq := Int.not_le.1 hsp)); refine hK _ ?_; clear hK K))))
      all_goals (refine wpQuiet_nil ?_; intro W9 hW9; obtain ⟨hB9, hC9, hF9, hZ9⟩ := K.ext_facts hW9; clear hW9; have hX2_9 := K.At.bel hX2 hB9; have hS2_9 := K.At.bel hS2 hB9; have hT2_9 := K.At.bel hT2 hB9)
      all_goals (obtain ⟨hc7, hf7, hl7⟩ := K.At.facts hT2_9)
      all_goals go_wp2
      all_goals first
        | (go_ret; exact ⟨K.ret_int (by unfold eAll; rw [if_neg]; rw [Bool.not_eq_true]; apply allOk_f hlt; rw [HO.out]; clear HO; go_light; (try have n1 : ¬ a.t < L := by omega); (try have n2 : ¬ 536870912 < a.t := by omega); first | (simp_all; done) | (simp_all; omega)), (by repeat (first | (with_reducible exact Below.refl _ _) | (with_reducible exact HB2.out) | (with_reducible refine K.b_bel ?_ (by assumption)) | (with_reducible refine K.b_alloc ?_ _) | (with_reducible refine K.b_drewN ?_ _) | (with_reducible refine K.b_drew ?_) | (with_reducible refine K.b_set ?_ (by first | omega | (simp <;> omega)) _) | (with_reducible refine K.b_only ?_ (by assumption) (by first | omega | (simp <;> omega)))))⟩)
        | (go_roundw
           case rel =>
             refine ⟨k + 1, by omega, by rw [HL.out], by go_num, hX2_9, hS2_9, ⟨fun j hj => ?_⟩, ⟨(by repeat (first | (with_reducible exact Below.refl _ _) | (with_reducible exact HB2.out) | (with_reducible refine K.b_bel ?_ (by assumption)) | (with_reducible refine K.b_alloc ?_ _) | (with_reducible refine K.b_drewN ?_ _) | (with_reducible refine K.b_drew ?_) | (with_reducible refine K.b_set ?_ (by first | omega | (simp <;> omega)) _) | (with_reducible refine K.b_only ?_ (by assumption) (by first | omega | (simp <;> omega)))))⟩⟩
             by_cases hjk : j = k
             · rw [hjk, HO.out]; clear HO; go_light; (try have n1 : ¬ a.t < L := by omega); (try have n2 : ¬ 536870912 < a.t := by omega); first | (simp_all; done) | (simp_all; omega)
             · exact Hf.out j (by omega)
           case measure => simp [intOf]; omega)

    · obtain rfl : k = xs.length := by omega
      go_wp2
      go_ret
      exact ⟨K.ret_int (by unfold eAll; rw [if_pos (allOk_t Hf.out)]), Hb.out⟩
theorem rCheck_y (x : Cal) (s : Set) (A : Option Addr) (n c : Nat) (w : World) (hr : Sl.Rds w 8 A n (x.l.flatMap Att.cs)) (h : s.ok) (h2 : headP x s) :
    Calls Try.prog 31 #[x.a A n c, s.a] w fun e w' => e = .returned (.int .i64 (eAll x)) ∧ Below w.heap.size w w' := by
  obtain ⟨num, op, once, at0, dl, nx, xs⟩ := x
  cases once
  · exact rCheck_yf num op at0 dl nx xs s A n c w hr h h2
  · exact rCheck_yt num op at0 dl nx xs s A n c w hr h h2
theorem rCheck_c (x : Cal) (s : Set) (A : Option Addr) (n c : Nat) (w : World) (hr : Sl.Rds w 8 A n (x.l.flatMap Att.cs)) :
    Calls Try.prog 31 #[x.a A n c, s.a] w fun e w' => e = .returned (.int .i64 (eCall x s)) ∧ Below w.heap.size w w' := by
  unfold eCall fineB
  by_cases h : s.ok
  · rw [if_pos h]
    by_cases h2 : headP x s
    · rw [decide_eq_true h2, Bool.true_and]
      show Calls Try.prog 31 #[x.a A n c, s.a] w fun e w' => e = .returned (.int .i64 (eAll x)) ∧ Below w.heap.size w w'
      exact rCheck_y x s A n c w hr h h2
    · rw [decide_eq_false h2, Bool.false_and, if_neg (by decide)]
      exact rCheck_9 x s A n c w hr h h2
  · rw [if_neg h]
    exact rCheck_4 x s A n c w h
end Go.Proofs.Ytfepjpjkamlneaa.Cl
