/- CallMakes: the walk. -/
import Derived.Test.YtfepjpjkamlneaaClM
set_option linter.unusedVariables false
namespace Go.Proofs.Ytfepjpjkamlneaa.Cl
open Go.RowKit Go.Proofs.Ytfepjpjkamlneaa
attribute [local go_sem] K.max2_int K.min2_int K.max_two K.min_two K.max_three K.min_three
set_option linter.unusedSimpArgs false
theorem zero_l (num : Int) (op : Op) (tick left : Int) : (oNew num op tick left).l = [] := by unfold oNew; split <;> rfl
set_option maxRecDepth 100000 in
set_option maxHeartbeats 8000000 in
theorem Makes_c (num : Int) (op : Op) (tick left : Int) (x : Cal) (m : Msg) (D : Value) (A : Option Addr) (n c : Nat) (w : World) (hr : Sl.Rds w 8 A n (x.l.flatMap Att.cs)) :
    Calls Try.prog 4 #[.int .i64 num, op.a, .int .i64 tick, .int .i64 left, x.a A n c, m.a D] w fun e w' => e = .returned (.bool true) ∧ Below w.heap.size w w' := by
  have GN := K.H.mk (fun W => New_c num op tick left W)
  have GR := K.H.mk (fun W => rNew_c num op tick left W)
  have GS := K.H.mk (fun W => same_c (oNew num op tick left) none none 0 0 0 0 W (by rw [zero_l]; exact Sl.Rds.nil _ _ _) (by rw [zero_l]; exact Sl.Rds.nil _ _ _))
  have GM := K.H.mk (fun (W : World) (hb : Below w.heap.size w W) => Match_c x m D A n c W (hr.below hb))
  have GRM := K.H.mk (fun (W : World) (hb : Below w.heap.size w W) => rMatch_c x m D A n c W (hr.below hb))
  have GE := K.H.mk (fun (W : World) (hb : Below w.heap.size w W) => Ended_c x A n c W (hr.below hb))
  have GRE := K.H.mk (fun (W : World) (hb : Below w.heap.size w W) => rEnded_c x A n c W (hr.below hb))
  have b1 : (eNew num op tick left == eNew num op tick left) = true := by simp
  have b2 : (Sl.idx (isAt m.pin) x.l == Sl.idx (isAt m.pin) x.l) = true := by simp
  have b3 : (oEnd x == oEnd x) = true := by simp
  generalize oNew num op tick left = y at *
  generalize eNew num op tick left = z at *
  generalize Sl.idx (isAt m.pin) x.l = u at *
  generalize oEnd x = v at *
  clear hr
  
  
  
  
  go_enter Try.func4, Try.ntmps4
  go_wp2_with (first
    | (go_at_call 13; (with_reducible refine (GN.out _).mono ?_); rintro e W1 ⟨rfl, hb1⟩; obtain ⟨hB1, hC1, hF1, hZ1⟩ := K.bel_facts hb1; clear hb1; have kO1 : K.At W1 w.heap.size 23 op.c := (by refine K.At.cast (by repeat (first | (with_reducible refine K.At.new' _ _ _ _ (by first | rfl | (simp; done) | omega)) | (with_reducible apply K.At.over hB1) | (with_reducible apply K.At.set) | (with_reducible apply K.At.alloc) | (with_reducible apply K.At.drewN) | (with_reducible apply K.At.drew) | (with_reducible apply K.At.far) | omega | (simp <;> omega))) ?_; rfl); obtain ⟨hc_kO1, hf_kO1, hl_kO1⟩ := K.At.facts kO1; have kX1 : K.At W1 (w.heap.size + 1) 26 (x.c A n c) := (by refine K.At.cast (by repeat (first | (with_reducible refine K.At.new' _ _ _ _ (by first | rfl | (simp; done) | omega)) | (with_reducible apply K.At.over hB1) | (with_reducible apply K.At.set) | (with_reducible apply K.At.alloc) | (with_reducible apply K.At.drewN) | (with_reducible apply K.At.drew) | (with_reducible apply K.At.far) | omega | (simp <;> omega))) ?_; rfl); obtain ⟨hc_kX1, hf_kX1, hl_kX1⟩ := K.At.facts kX1; have kM1 : K.At W1 (w.heap.size + 1 + 1) 41 (m.c D) := (by refine K.At.cast (by repeat (first | (with_reducible refine K.At.new' _ _ _ _ (by first | rfl | (simp; done) | omega)) | (with_reducible apply K.At.over hB1) | (with_reducible apply K.At.set) | (with_reducible apply K.At.alloc) | (with_reducible apply K.At.drewN) | (with_reducible apply K.At.drew) | (with_reducible apply K.At.far) | omega | (simp <;> omega))) ?_; rfl); obtain ⟨hc_kM1, hf_kM1, hl_kM1⟩ := K.At.facts kM1)
    
    | (go_at_call 14; (with_reducible refine (GR.out _).mono ?_); rintro e W2 ⟨rfl, hb2⟩; obtain ⟨hB2, hC2, hF2, hZ2⟩ := K.bel_facts hb2; clear hb2; have kO2 : K.At W2 w.heap.size 23 op.c := (by refine K.At.cast (by repeat (first | (with_reducible exact kO1) | (with_reducible refine K.At.new' _ _ _ _ (by first | rfl | (simp; done) | omega)) | (with_reducible apply K.At.over hB2) | (with_reducible apply K.At.set) | (with_reducible apply K.At.alloc) | (with_reducible apply K.At.drewN) | (with_reducible apply K.At.drew) | (with_reducible apply K.At.far) | omega | (simp <;> omega))) ?_; rfl); obtain ⟨hc_kO2, hf_kO2, hl_kO2⟩ := K.At.facts kO2; clear hc_kO1 hf_kO1 hl_kO1; have kX2 : K.At W2 (w.heap.size + 1) 26 (x.c A n c) := (by refine K.At.cast (by repeat (first | (with_reducible exact kX1) | (with_reducible refine K.At.new' _ _ _ _ (by first | rfl | (simp; done) | omega)) | (with_reducible apply K.At.over hB2) | (with_reducible apply K.At.set) | (with_reducible apply K.At.alloc) | (with_reducible apply K.At.drewN) | (with_reducible apply K.At.drew) | (with_reducible apply K.At.far) | omega | (simp <;> omega))) ?_; rfl); obtain ⟨hc_kX2, hf_kX2, hl_kX2⟩ := K.At.facts kX2; clear hc_kX1 hf_kX1 hl_kX1; have kM2 : K.At W2 (w.heap.size + 1 + 1) 41 (m.c D) := (by refine K.At.cast (by repeat (first | (with_reducible exact kM1) | (with_reducible refine K.At.new' _ _ _ _ (by first | rfl | (simp; done) | omega)) | (with_reducible apply K.At.over hB2) | (with_reducible apply K.At.set) | (with_reducible apply K.At.alloc) | (with_reducible apply K.At.drewN) | (with_reducible apply K.At.drew) | (with_reducible apply K.At.far) | omega | (simp <;> omega))) ?_; rfl); obtain ⟨hc_kM2, hf_kM2, hl_kM2⟩ := K.At.facts kM2; clear hc_kM1 hf_kM1 hl_kM1; have kY2 : K.At W2 W1.heap.size 26 (y.c none 0 0) := (by refine K.At.cast (by repeat (first | (with_reducible refine K.At.new' _ _ _ _ (by first | rfl | (simp; done) | omega)) | (with_reducible apply K.At.over hB2) | (with_reducible apply K.At.set) | (with_reducible apply K.At.alloc) | (with_reducible apply K.At.drewN) | (with_reducible apply K.At.drew) | (with_reducible apply K.At.far) | omega | (simp <;> omega))) ?_; rfl); obtain ⟨hc_kY2, hf_kY2, hl_kY2⟩ := K.At.facts kY2)
    )
  refine K.wp_gen (fun W => K.At W (w.heap.size + 1) 26 (x.c A n c) ∧ K.At W (w.heap.size + 1 + 1) 41 (m.c D) ∧ K.At W W1.heap.size 26 (y.c none 0 0) ∧ K.At W W2.heap.size 26 (y.c none 0 0) ∧ Below w.heap.size w W) ⟨(by refine K.At.cast (by repeat (first | (with_reducible exact kX2) | (with_reducible refine K.At.new' _ _ _ _ (by first | rfl | (simp; done) | omega)) | (with_reducible apply K.At.set) | (with_reducible apply K.At.alloc) | (with_reducible apply K.At.drewN) | (with_reducible apply K.At.drew) | (with_reducible apply K.At.far) | omega | (simp <;> omega))) ?_; rfl), (by refine K.At.cast (by repeat (first | (with_reducible exact kM2) | (with_reducible refine K.At.new' _ _ _ _ (by first | rfl | (simp; done) | omega)) | (with_reducible apply K.At.set) | (with_reducible apply K.At.alloc) | (with_reducible apply K.At.drewN) | (with_reducible apply K.At.drew) | (with_reducible apply K.At.far) | omega | (simp <;> omega))) ?_; rfl), (by refine K.At.cast (by repeat (first | (with_reducible exact kY2) | (with_reducible refine K.At.new' _ _ _ _ (by first | rfl | (simp; done) | omega)) | (with_reducible apply K.At.set) | (with_reducible apply K.At.alloc) | (with_reducible apply K.At.drewN) | (with_reducible apply K.At.drew) | (with_reducible apply K.At.far) | omega | (simp <;> omega))) ?_; rfl), (by refine K.At.cast (by repeat (first | (with_reducible refine K.At.new' _ _ _ _ (by first | rfl | (simp; done) | omega)) | (with_reducible apply K.At.set) | (with_reducible apply K.At.alloc) | (with_reducible apply K.At.drewN) | (with_reducible apply K.At.drew) | (with_reducible apply K.At.far) | omega | (simp <;> omega))) ?_; rfl), (by repeat (first | (with_reducible exact Below.refl _ _) | (with_reducible refine K.b_bel ?_ (by assumption)) | (with_reducible refine K.b_alloc ?_ _) | (with_reducible refine K.b_drewN ?_ _) | (with_reducible refine K.b_drew ?_) | (with_reducible refine K.b_set ?_ (by first | omega | (simp <;> omega)) _) | (with_reducible refine K.b_only ?_ (by assumption) (by first | omega | (simp <;> omega)))))⟩ ?_
  rintro W3 ⟨hX, hM, hY, hZ, hb3⟩
  have HB := K.H.mk hb3
  obtain ⟨hc5, hf5, hl5⟩ := K.At.facts hX
  obtain ⟨hc6, hf6, hl6⟩ := K.At.facts hM
  obtain ⟨hc7, hf7, hl7⟩ := K.At.facts hY
  obtain ⟨hc8, hf8, hl8⟩ := K.At.facts hZ
  have GM2 := K.H.mk (fun (W : World) (hW : Below W3.heap.size W3 W) => GM.out W (HB.out.trans (hW.mono HB.out.size)))
  have GRM2 := K.H.mk (fun (W : World) (hW : Below W3.heap.size W3 W) => GRM.out W (HB.out.trans (hW.mono HB.out.size)))
  have GE2 := K.H.mk (fun (W : World) (hW : Below W3.heap.size W3 W) => GE.out W (HB.out.trans (hW.mono HB.out.size)))
  have GRE2 := K.H.mk (fun (W : World) (hW : Below W3.heap.size W3 W) => GRE.out W (HB.out.trans (hW.mono HB.out.size)))
  clear hb3
  refine K.wp_region_ext_lit (by kernel_rfl) (by kernel_rfl) ?_
  repeat (any_goals (first | go_big_quiet_skip | quiet_step ((first | (go_at_call 12; first | (with_reducible exact K.q_same (num_c _ _))) | (go_at_call 15; first | (with_reducible exact K.q_below (GS.out _))) | (go_at_call 16; first | (with_reducible exact K.q_below (GM2.out _ (World.ext_below _ _)))) | (go_at_call 17; first | (with_reducible exact K.q_below (GRM2.out _ (World.ext_below _ _)))) | (go_at_call 18; first | (with_reducible exact K.q_below (GE2.out _ (World.ext_below _ _)))) | (go_at_call 19; first | (with_reducible exact K.q_below (GRE2.out _ (World.ext_below _ _)))) | (go_at_call 10; first | (with_reducible exact K.q_below (alive_c _))))) | (refine wpQuiet_step (fun K hK => ?_); go_simp; split <;> (refine hK _ ?_; clear hK K))))
  all_goals (refine wpQuiet_nil ?_; intro W9 hW9; obtain ⟨hB9, hC9, hF9, hZ9⟩ := K.ext_facts hW9; clear hW9)
  go_wp2
  go_ret
  exact ⟨rfl, (by repeat (first | (with_reducible exact Below.refl _ _) | (with_reducible exact HB.out) | (with_reducible refine K.b_bel ?_ (by assumption)) | (with_reducible refine K.b_alloc ?_ _) | (with_reducible refine K.b_drewN ?_ _) | (with_reducible refine K.b_drew ?_) | (with_reducible refine K.b_set ?_ (by first | omega | (simp <;> omega)) _) | (with_reducible refine K.b_only ?_ (by assumption) (by first | omega | (simp <;> omega)))))⟩
end Go.Proofs.Ytfepjpjkamlneaa.Cl
